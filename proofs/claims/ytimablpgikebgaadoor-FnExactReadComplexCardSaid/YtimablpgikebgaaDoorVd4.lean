/- Decimal numerals read: the rebuild's reader, and the law. No condition but what the row lists. -/
import Derived.Test.YtimablpgikebgaaDoorVd3
import Derived.Test.YtimablpgikebgaaDoorPi0
import Derived.Lib.AtoiErrMem
namespace Go.Proofs.YtimablpgikebgaaDoor
open Go.RowKit
set_option linter.unusedVariables false
set_option linter.unusedSimpArgs false
namespace Walk
/-- A package-level variable holds an error value of the library's. -/
def ErrAt (w : World) (name : String) : Prop := ∃ tp p, w.var? Tryd.prog name = some #[.iface tp p]
theorem var_below {w w' : World} {name : String} {cs : Array Value} (h : w.var? Tryd.prog name = some cs) (hb : Below w.heap.size w w') : w'.var? Tryd.prog name = some cs := by
  unfold World.var? at *
  cases hg : Tryd.prog.globalNamed name with
  | none => simp [hg] at h
  | some g =>
    simp only [hg, Option.bind_some] at h ⊢
    have hlt : g < w.heap.size := by
      rcases Nat.lt_or_ge g w.heap.size with h' | h'
      · exact h'
      · rw [Array.getElem?_eq_none h'] at h; simp at h
    rw [hb.block g hlt]
    exact h
theorem ErrAt.on {w w' : World} {name : String} (h : ErrAt w name) (hb : Below w.heap.size w w') : ErrAt w' name := by
  obtain ⟨tp, p, h⟩ := h
  exact ⟨tp, p, var_below h hb⟩
def ParseEnd (s : ByteArray) (w : World) (e : Ending) (w' : World) : Prop := Below w.heap.size w w' ∧ ((∃ v, Lib.parseIntB 64 s.data.toList = .ok v ∧ e = .returned (.tuple #[.int .i64 v, .nilIface])) ∨
  ((∀ v, Lib.parseIntB 64 s.data.toList ≠ .ok v) ∧ ∃ u N, e = .returned (.tuple #[.int .i64 u, .iface 105 (.pointer (some ⟨N, 0, none⟩))])))
theorem parse10 (s : ByteArray) (hs : s.size ≤ 1048576) (w : World) (he1 : ErrAt w "strconv.ErrSyntax") (he2 : ErrAt w "strconv.ErrRange") :
    Calls Tryd.prog 55 #[.string s, .int .i64 10, .int .i64 64] w fun e w' => ParseEnd s w e w' := by
  obtain ⟨t1, p1, h1⟩ := he1
  obtain ⟨t2, p2, h2⟩ := he2
  cases h : Lib.parseIntB 64 s.data.toList with
  | ok v =>
    refine (Any.strconv_ParseInt_10_at64_ok Tryd.laysC174 s (by omega) v h w).mono ?_
    rintro e w1 ⟨rfl, hw⟩
    refine ⟨?_, .inl ⟨v, h, rfl⟩⟩
    rcases hw with rfl | ⟨t, rfl⟩
    · exact Below.refl _ _
    · exact Lib.bytesWorld_below w 5 t
  | range =>
    refine (Any.strconv_ParseInt_10_at64_range_var Tryd.laysC174 s (by omega) h t2 p2 w h2).mono ?_
    rintro e w1 ⟨N, rfl, -, -, hb⟩
    exact ⟨hb, .inr ⟨(by intro v hv; rw [h] at hv; cases hv), _, N, rfl⟩⟩
  | _ =>
    refine (Any.strconv_ParseInt_10_at64_syntax_var Tryd.laysC174 s (by omega) h t1 p1 w h1).mono ?_
    rintro e w1 ⟨N, rfl, -, -, hb⟩
    exact ⟨hb, .inr ⟨(by intro v hv; rw [h] at hv; cases hv), _, N, rfl⟩⟩
theorem imReadDecimal (s : ByteArray) (hs : s.size ≤ 1048576) (w : World) (he1 : ErrAt w "strconv.ErrSyntax") (he2 : ErrAt w "strconv.ErrRange") (htab : Lib.TabBelow Tryd.prog w.heap.size w "internal/strconv.uint64pow10" .u64 Lib.pow10Tab) :
    Calls Tryd.prog 34 #[.string s] w fun e w' => e = .returned (.tuple #[.int .i64 (Dec.decOf s.data.toList).1, .bool (Dec.decOf s.data.toList).2]) ∧ Below w.heap.size w w' := by
  have HT := hid htab
  have HP := hid (parse10 s hs w he1 he2)
  clear htab he1 he2
  go_enter Tryd.func34, Tryd.ntmps34
  go_wp2_with fail
  refine HP.out.mono ?_
  rintro e w1 ⟨hb, ⟨v, hv, rfl⟩ | ⟨hn, u, N, rfl⟩⟩
  · have HB := hid hb
    clear hb
    obtain ⟨hv0, hv1⟩ := Lib.parseIntB_bounds hv
    have HV := hid hv
    have HV0 : Hid (-9223372036854775808 ≤ v) := hid hv0
    have HV1 : Hid (v ≤ 9223372036854775807) := hid (by have : v < ((2 ^ (64 - 1) : Nat) : Int) := hv1; omega)
    clear hv hv0 hv1
    go_wp2_with fail
    refine (isValue v w1).mono ?_
    rintro e w2 ⟨he, rfl⟩
    by_cases hin : -1000000000000000 ≤ v ∧ v ≤ 1000000000000000
    · have hI : inB (-1000000000000000) 1000000000000000 v = true := by simp [inB, hin.1, hin.2]
      rw [hI] at he
      subst he
      have HIN := hid hin
      clear hin hI
      go_wp2_with fail
      refine (imDecimal v HV0.out HV1.out _ (HT.out.on HB.out).here).mono ?_
      rintro e w3 ⟨he, hb⟩
      have HB2 := hid (below_to HB.out hb)
      clear hb
      obtain ⟨t, ht⟩ : ∃ t : ByteArray, (⟨(Lib.itoa v).toArray⟩ : ByteArray) = t := ⟨_, rfl⟩
      rw [ht] at he
      subst he
      by_cases heq : t = s
      · have HY := hid (dec_yes s v HIN.out.1 HIN.out.2 (str_eq.1 (ht.trans heq)))
        have hne := beq_yes heq
        clear ht heq
        go_wp2_with fail
        go_ret2
        exact ⟨ret_dec HY.out, HB2.out⟩
      · have HN := hid (Dec.decOf_not (Dec.not_of_val HV.out (fun h => heq (ht.symm.trans (str_eq.2 h.2)))))
        have hne := beq_no heq
        clear ht heq
        go_wp2_with fail
        go_ret2
        exact ⟨ret_dec HN.out, HB2.out⟩
    · have hI : inB (-1000000000000000) 1000000000000000 v = false := by simp [inB]; omega
      rw [hI] at he
      subst he
      have HN := hid (Dec.decOf_not (Dec.not_of_val HV.out (fun h => hin h.1)))
      clear hin hI
      go_wp2_with fail
      go_ret2
      exact ⟨ret_dec HN.out, HB.out⟩
  · have HB := hid hb
    have HN := hid (Dec.decOf_not (Dec.not_of_parse hn))
    clear hb hn
    go_wp2_with fail
    go_ret2
    exact ⟨ret_dec HN.out, HB.out⟩
theorem fnExactReadDecimal (a0 : ByteArray) (w : World) (w0 : a0.size ≤ maxLen) (htab : Lib.TabBelow Tryd.prog w.heap.size w "internal/strconv.uint64pow10" .u64 Lib.pow10Tab) (he1 : ErrAt w "strconv.ErrSyntax") (he2 : ErrAt w "strconv.ErrRange") :
    Calls Tryd.prog 9 #[.string a0] w fun e w' => e = .returned (.bool true) ∧ Below w.heap.size w w' := by
  have HT := hid htab
  have HE1 := hid he1
  have HE2 := hid he2
  clear htab he1 he2
  by_cases hbig : 1048576 < a0.size
  · go_enter Tryd.func9, Tryd.ntmps9
    go_wp2
    go_ret
    exact ⟨rfl, Below.refl _ _⟩
  · have hle : a0.size ≤ 1048576 := by omega
    obtain ⟨⟨x, b⟩, hr⟩ : ∃ r, Dec.decOf a0.data.toList = r := ⟨_, rfl⟩
    have H33 := hid (fun w => spReadDecimal a0 hle w)
    have H34 := hid (fun w h1 h2 h3 => imReadDecimal a0 hle w h1 h2 h3)
    simp only [hr] at H33 H34
    clear hr
    go_enter Tryd.func9, Tryd.ntmps9
    go_wp2_with fail
    refine (H33.out w).mono ?_
    rintro e w1 ⟨rfl, hb⟩
    have HB := hid hb
    clear hb
    go_wp2_with fail
    refine (H34.out w1 (HE1.out.on HB.out) (HE2.out.on HB.out) (Lib.tabBelow_of_tabIs (HT.out.on HB.out).here)).mono ?_
    rintro e w2 ⟨rfl, hb⟩
    have HB2 := hid (below_to HB.out hb)
    clear hb
    go_wp2_with fail
    go_ret
    exact ⟨rfl, HB2.out⟩
end Walk
end Go.Proofs.YtimablpgikebgaaDoor
