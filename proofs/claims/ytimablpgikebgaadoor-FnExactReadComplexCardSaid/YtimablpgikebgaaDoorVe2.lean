/- Lists of numerals: the rebuild's way of writing a list, and the law. No condition but the table's. -/
import Derived.Test.YtimablpgikebgaaDoorVe1
import Derived.Maps.AppendAt
import Derived.OwnWalk
namespace Go.Proofs.YtimablpgikebgaaDoor
open Go.RowKit Sl
set_option linter.unusedVariables false
set_option linter.unusedSimpArgs false
namespace Walk
theorem areValues (a : Option Addr) (len cap : Nat) (zs : List Int) (w : World) (h : SlV (Value.int .i64) w a len zs) (hl : len ≤ 1048576) : Calls Tryd.prog 48 #[.slice a len cap] w fun e w' => e = .returned (.bool (okAll zs && decide (len ≤ 64))) ∧ w' = w := by
  have H := hid h
  clear h
  go_enter Tryd.func48, Tryd.ntmps48
  go_wp2_with fail
  go_loop [7] (fun i => ∃ k : Nat, k ≤ len ∧ i = .int .i64 k ∧ ∀ j, j < k → inB (-1000000000000000) 1000000000000000 (zs.getD j 0) = true) (fun i => len - (intOf i).toNat)
  case atStart => exact ⟨0, Nat.zero_le _, rfl, fun j hj => absurd hj (Nat.not_lt_zero _)⟩
  case round =>
    obtain ⟨k, hk, rfl, hok⟩ := hrel
    have HOK := hid hok
    clear hok
    by_cases hlt : k < len
    · obtain ⟨b, off, rfl, hb, hc⟩ := H.out.2 (by omega)
      have hc1 : w.cell? ⟨b, off + k, none⟩ = some (.int .i64 (zs.getD k 0)) := hc k hlt
      obtain ⟨x, hx⟩ : ∃ x, zs.getD k 0 = x := ⟨_, rfl⟩
      have HX := hid hx
      rw [hx] at hc1
      clear hc hx
      go_wp2_with fail
      refine (isValue x w).mono ?_
      rintro e w1 ⟨he, rfl⟩
      cases hin : inB (-1000000000000000) 1000000000000000 x with
      | true =>
        rw [hin] at he
        subst he
        have HIN := hid hin
        clear hin
        go_wp2_with fail
        go_round
        case rel => exact ⟨k + 1, by omega, by go_num, fun j hj => by
          by_cases e : j = k
          · rw [e, HX.out]; exact HIN.out
          · exact HOK.out j (by omega)⟩
        case measure => simp [intOf]; omega
      | false =>
        rw [hin] at he
        subst he
        have HNO : Hid (okAll zs = false) := hid (okAll_no (k := k) (by rw [H.out.1]; exact hlt) (by rw [HX.out]; exact hin))
        clear hin
        go_wp2_with fail
        go_ret
        exact ⟨by rw [HNO.out]; rfl, rfl⟩
    · obtain rfl : k = len := by omega
      have HYES : Hid (okAll zs = true) := hid (okAll_of (by rw [H.out.1]; exact HOK.out))
      go_wp2_with fail
      go_ret
      exact ⟨by rw [HYES.out]; simp; omega, rfl⟩
/-- A list of strings that the call made. -/
def OwnS (B : Nat) (w : World) (v : Value) (l : List ByteArray) : Prop := ∃ g cap cur, v = .slice (some ⟨g, 0, none⟩) l.length cap ∧ B ≤ g ∧ w.heap[g]? = some (.cells cur 9 (0, 0)) ∧ l.length ≤ cap ∧ cap ≤ maxLen ∧ cur.size = cap ∧ cur.toList.take l.length = l.map Value.string
theorem OwnS.lt {B : Nat} {w : World} {v : Value} {l : List ByteArray} (h : OwnS B w v l) : ∃ g cap, v = .slice (some ⟨g, 0, none⟩) l.length cap ∧ g < w.heap.size := by
  obtain ⟨g, cap, cur, hv, _, hg, _⟩ := h
  exact ⟨g, cap, hv, (Array.getElem?_eq_some_iff.1 hg).1⟩
theorem OwnS.below {B : Nat} {w w' : World} {v : Value} {l : List ByteArray} (h : OwnS B w v l) (b : Below w.heap.size w w') : OwnS B w' v l := by
  obtain ⟨g, cap, cur, hv, h1, hg, hr⟩ := h
  exact ⟨g, cap, cur, hv, h1, (b.block g (Array.getElem?_eq_some_iff.1 hg).1).trans hg, hr⟩
theorem OwnS.row {B : Nat} {w : World} {v : Value} {l : List ByteArray} (h : OwnS B w v l) : w.ownsRow B 9 1 v l.length (l.map Value.string) := by
  obtain ⟨g, cap, cur, hv, h1, hg, h2, h3, h4, h5⟩ := h
  exact ⟨by simp, .inr ⟨g, cap, cur, hv, h1, hg, h2, h3, by omega, by rw [Nat.mul_one]; exact h5⟩⟩
theorem OwnS.cells {B : Nat} {w : World} {l : List ByteArray} {g cap : Nat} (h : OwnS B w (.slice (some ⟨g, 0, none⟩) l.length cap) l) : g < w.heap.size ∧ l.length ≤ cap ∧ ∀ (j : Nat) x, l[j]? = some x → w.cell? ⟨g, 0 + j, none⟩ = some (.string x) := by
  obtain ⟨g', cap', cur, hv, h1, hg, h2, h3, h4, h5⟩ := h
  injection hv with e1 e2 e3
  injection e1 with e1
  injection e1 with e1
  subst e1
  subst e3
  refine ⟨(Array.getElem?_eq_some_iff.1 hg).1, h2, fun j x hj => ?_⟩
  have hjl := (List.getElem?_eq_some_iff.1 hj).1
  have e : cur[j]? = some (.string x) := by
    have := congrArg (·[j]?) h5
    simp only [List.getElem?_take_of_lt hjl, List.getElem?_map, hj, Option.map_some, Array.getElem?_toList] at this
    exact this
  simp only [World.cell?, hg, Nat.zero_add]
  exact e
theorem OwnS.start (w : World) : OwnS w.heap.size (w.alloc (.cells #[] 9)) (.slice (some ⟨w.heap.size, 0, none⟩) 0 0) [] :=
  ⟨w.heap.size, 0, #[], rfl, Nat.le_refl _, (MapKept.heap_alloc w _).1, Nat.le_refl _, Nat.zero_le _, rfl, rfl⟩
/-- 'append(out, y)'. -/
theorem wpList_snoc {wq : World} {ops : Array Oper} {rest : List Oper} {o : Oper} {a : Act} {Q : Exit → Act → World → Prop} (hgd : o.guard = none) (s x : Operand)
    (ho : o.op = .call { callee := .builtin .append, args := #[s, x], argTypes := #[49, 49] }) (B : Nat) (hB : B ≤ wq.heap.size) (y : ByteArray) (l : List ByteArray) (v : Value) (hl : l.length ≤ 2000000)
    (hs : a.eval s = v) (hx : a.eval x = .slice (some ⟨wq.heap.size, 0, none⟩) 1 1) (hown : OwnS B wq v l)
    (h : ∀ v' w1, OwnS B w1 v' (l ++ [y]) → Below B wq w1 → wpList Tryd.prog ops Q rest (a.put o.dst v') w1) : wpList Tryd.prog ops Q (o :: rest) a (wq.alloc (.cells #[.string y] 9)) := by
  obtain ⟨i0, hi, hz0, hz1, hz2⟩ := info_parts infoS
  have hrow := (hown.below (Below.alloc (Below.refl wq.heap.size wq) (Nat.le_refl _) (.cells #[.string y] 9))).row
  refine wpList_append_own_at _ hgd s x 49 ho B 9 i0 (.string ByteArray.empty) 1 16 Tryd.underlying49 hi hz0 hz1 hz2 rfl (by decide) v l.length (l.map Value.string) hs hrow ⟨wq.heap.size, 0, none⟩ 1 1 [.string y] hx rfl ?_ ?_ (by unfold maxLen; omega) (by omega) (by simp; omega) ?_
  · intro j u hj
    cases j with
    | zero =>
      simp at hj
      subst hj
      rw [Addr.add_lit]
      unfold World.cell?
      simp only [(MapKept.heap_alloc wq (.cells #[.string y] 9)).1]
      rfl
    | succ j => simp at hj
  · intro u hu
    simp at hu
    subst hu
    rfl
  · intro v' w1 hown1 hgrow _ hat
    have hb : Below B wq w1 := ((Below.refl B wq).alloc hB _).grown hgrow (by simp; omega) (fun q hq => (hrow.lt q hq).1)
    refine h v' w1 ?_ hb
    rcases hown1.2 with ⟨-, h0⟩ | ⟨g', cap', cur, rfl, hbg, hg, h2, h3, h4, h5⟩
    · simp at h0
    · exact ⟨g', cap', cur, by simp, hbg, hg, by simpa using h2, h3, by omega, by simpa using h5⟩
def strs (zs : List Int) : List ByteArray := zs.map fun z => (⟨(Lib.itoa z).toArray⟩ : ByteArray)
theorem strs_nums (zs : List Int) : (strs zs).map (·.data.toList) = nums zs := by
  unfold strs nums
  rw [List.map_map]
  rfl
theorem strs_step (zs : List Int) (k : Nat) (hk : k < zs.length) : strs (zs.take (k + 1)) = strs (zs.take k) ++ [(⟨(Lib.itoa (zs.getD k 0)).toArray⟩ : ByteArray)] := by
  unfold strs
  rw [List.take_succ_eq_append_getElem hk, List.map_append, List.getD_eq_getElem?_getD, List.getElem?_eq_getElem hk]
  rfl
theorem join_len (zs : List Int) (h : okAll zs = true) : (Lib.join (nums zs) [44]).length ≤ 22 * zs.length := by
  have hl : ∀ n, n ≤ zs.length → 1 ≤ n → (Lib.join (nums (zs.take n)) [44]).length ≤ 22 * n := by
    intro n
    induction n with
    | zero => intro _ h0; omega
    | succ n ih =>
      intro hn _
      have hi := inB_iff (okAll_at h (k := n) (by omega))
      have h2 := Lib.itoa_length_le (zs.getD n 0) (by omega) (by omega)
      by_cases h0 : n = 0
      · subst h0
        rw [txt_one zs (by omega)]; omega
      · rw [txt_step zs n (by omega) (by omega), List.length_append, List.length_append]
        have := ih (by omega) (by omega)
        simp only [List.length_cons, List.length_nil]
        omega
  by_cases h0 : zs.length = 0
  · rw [List.eq_nil_of_length_eq_zero h0]
    exact Nat.zero_le _
  · have := hl zs.length (Nat.le_refl _) (by omega)
    rwa [List.take_of_length_le (Nat.le_refl _)] at this
theorem joined (B : Nat) (v : Value) (zs : List Int) (w : World) (h : OwnS B w v (strs zs)) (hok : okAll zs = true) (hl : zs.length ≤ 64) : Calls Tryd.prog 53 #[v] w fun e w' => e = .returned (.string ⟨(txt zs).toArray⟩) ∧ Below w.heap.size w w' := by
  obtain ⟨g, cap, rfl, hg⟩ := h.lt
  obtain ⟨h1, h2, h3⟩ := h.cells
  have hsl : (strs zs).length = zs.length := by simp [strs]
  by_cases h0 : zs.length = 0
  · have HE : Hid (txt zs = [110, 111, 110, 101]) := hid (by rw [txt, if_pos (List.eq_nil_of_length_eq_zero h0)])
    rw [hsl, h0]
    clear h h1 h2 h3
    go_enter Tryd.func53, Tryd.ntmps53
    go_wp2_with fail
    go_ret
    exact ⟨by rw [HE.out]; rfl, Below.refl _ _⟩
  · have HT : Hid (txt zs = Lib.join ((strs zs).map (·.data.toList)) [44]) := hid (by rw [strs_nums, txt, if_neg (by intro e; rw [e] at h0; exact h0 rfl)])
    have hj := Tryd.strings_Join g 0 cap (strs zs) (⟨#[44]⟩ : ByteArray) w h3 h1 (by rw [hsl]; omega) h2 (by
      rw [strs_nums]
      have := join_len zs hok
      exact Nat.le_trans this (by omega))
    obtain ⟨m, hm⟩ : ∃ m, (strs zs).length = m := ⟨_, rfl⟩
    rw [hm] at hj ⊢
    have hm0 : ((m : Int) == 0) = false := by simp; omega
    obtain ⟨t, ht⟩ : ∃ t : ByteArray, (⟨(Lib.join ((strs zs).map (·.data.toList)) [44]).toArray⟩ : ByteArray) = t := ⟨_, rfl⟩
    have hj2 : Calls Tryd.prog 69 #[.slice (some ⟨g, 0, none⟩) m cap, .string ⟨#[44]⟩] w fun e w' => e = .returned (.string t) ∧ Below w.heap.size w w' := by rw [← ht]; exact hj
    have HJ := hid hj2
    have HTT : Hid ((⟨(txt zs).toArray⟩ : ByteArray) = t) := hid (by rw [HT.out]; exact ht)
    clear hj hj2 ht h h1 h2 h3 hm
    go_enter Tryd.func53, Tryd.ntmps53
    go_wp2_with fail
    refine HJ.out.mono ?_
    rintro e w1 ⟨rfl, hb⟩
    have HB := hid hb
    clear hb
    go_wp2_with fail
    go_ret
    exact ⟨by rw [HTT.out]; rfl, HB.out⟩
set_option maxHeartbeats 1000000 in
theorem listText (a : Option Addr) (len cap : Nat) (zs : List Int) (w : World) (h : SlV (Value.int .i64) w a len zs) (hok : okAll zs = true) (hl : len ≤ 64) (htab : Lib.TabBelow Tryd.prog w.heap.size w "internal/strconv.uint64pow10" .u64 Lib.pow10Tab) : Calls Tryd.prog 49 #[.slice a len cap] w fun e w' => e = .returned (.string ⟨(txt zs).toArray⟩) ∧ Below w.heap.size w w' := by
  have H := hid h
  have HOK := hid hok
  have HLE := hid h.1
  have HTAB := hid htab
  clear h hok htab
  go_enter Tryd.func49, Tryd.ntmps49
  go_wp2_with fail
  go_loopw [3, 9] (fun v i wr => ∃ (k : Nat), k ≤ len ∧ i = .int .i64 k ∧ OwnS w.heap.size wr v (strs (zs.take k)) ∧ Below w.heap.size w wr) (fun _ i _ => len - (intOf i).toNat)
  case atStart => exact ⟨0, Nat.zero_le _, rfl, OwnS.start w, Below.alloc (Below.refl _ _) (Nat.le_refl _) _⟩
  case round =>
    obtain ⟨k, hk, rfl, hown, hbel⟩ := hrel
    have HOWN := hid hown
    have HBEL := hid hbel
    by_cases hlt : k < len
    · obtain ⟨b, off, rfl, hb, hc⟩ := H.out.2 (by omega)
      have hc1 : wr.cell? ⟨b, off + k, none⟩ = some (.int .i64 (zs.getD k 0)) := by rw [hbel.cell (p := ⟨b, off + k, none⟩) hb]; exact hc k hlt
      obtain ⟨y, hy⟩ : ∃ x, zs.getD k 0 = x := ⟨_, rfl⟩
      have HI2 := hid (inB_iff (okAll_at HOK.out (k := k) (by rw [HLE.out]; omega)))
      rw [hy] at hc1 HI2
      have HY := hid hy
      clear hc hy hown hbel
      go_wp2_with fail
      refine (imDecimal y (by have := HI2.out; omega) (by have := HI2.out; omega) _ (HTAB.out.on HBEL.out).here).mono ?_
      rintro e w2 ⟨rfl, hb2⟩
      have HB2 := hid (below_to HBEL.out hb2)
      have HOWN2 := hid (HOWN.out.below hb2)
      obtain ⟨t2, ht2⟩ : ∃ t : ByteArray, (⟨(Lib.itoa y).toArray⟩ : ByteArray) = t := ⟨_, rfl⟩
      rw [ht2]
      have HT2 : Hid (strs (zs.take (k + 1)) = strs (zs.take k) ++ [t2]) := hid (by rw [strs_step zs k (by rw [HLE.out]; exact hlt), HY.out, ht2])
      clear hb2 ht2
      go_wp2_with (at_builtin; refine wpList_snoc rfl (.tmp 13) (.tmp 16) rfl w.heap.size HB2.out.size t2 (strs (zs.take k)) _ (by simp [strs]; omega) rfl rfl HOWN2.out ?_; intro v' w1 ho1 hb1; have HO1 := hid ho1; have HB1 := hid (HB2.out.trans hb1); clear ho1 hb1)
      go_roundw
      case rel => exact ⟨k + 1, by omega, by go_num, by rw [HT2.out]; exact HO1.out, HB1.out⟩
      case measure => simp [intOf]; omega
    · obtain rfl : k = len := by omega
      rw [List.take_of_length_le (by rw [HLE.out]; exact Nat.le_refl _)] at hown
      have hj := joined w.heap.size _ zs wr hown HOK.out (by rw [HLE.out]; exact hl)
      obtain ⟨t, ht⟩ : ∃ t : ByteArray, (⟨(txt zs).toArray⟩ : ByteArray) = t := ⟨_, rfl⟩
      rw [ht] at hj
      have HJ := hid hj
      have HT := hid ht
      clear hown hbel HOWN hj ht
      go_wp2_with fail
      refine HJ.out.mono ?_
      rintro e w1 ⟨rfl, hb⟩
      have HB2 := hid (below_to HBEL.out hb)
      clear hb
      go_wp2_with fail
      go_ret
      exact ⟨by rw [HT.out]; rfl, HB2.out⟩
theorem spListText (a : Option Addr) (len cap : Nat) (zs : List Int) (w : World) (h : SlV (Value.int .i64) w a len zs) (hl : len ≤ 1048576) : Calls Tryd.prog 27 #[.slice a len cap] w fun e w' => e = .returned (.tuple #[.string ⟨(ltx zs len).1.toArray⟩, .bool (ltx zs len).2]) ∧ Below w.heap.size w w' := by
  have H := hid h
  have HL := hid (l01List a len cap zs w h hl)
  clear h
  cases hb : okAll zs && decide (len ≤ 64) with
  | false =>
    have HE : Hid (ltx zs len = ([], false)) := hid (by unfold ltx; rw [hb]; rfl)
    rw [hb] at HL
    clear hb
    go_enter Tryd.func27, Tryd.ntmps27
    go_wp2_with fail
    refine HL.out.mono ?_
    rintro e w1 ⟨rfl, rfl⟩
    go_wp2_with fail
    go_ret2
    exact ⟨by rw [HE.out]; rfl, Below.refl _ _⟩
  | true =>
    have HE : Hid (ltx zs len = (txt zs, true)) := hid (by unfold ltx; rw [hb]; rfl)
    rw [hb] at HL
    obtain ⟨h1, h2⟩ : okAll zs = true ∧ len ≤ 64 := by simpa using hb
    have HT := hid (l01Text a len cap zs w H.out h1 h2)
    obtain ⟨t, ht⟩ : ∃ t : ByteArray, (⟨(txt zs).toArray⟩ : ByteArray) = t := ⟨_, rfl⟩
    rw [ht] at HT
    have HTT := hid ht
    clear hb h1 h2 ht
    go_enter Tryd.func27, Tryd.ntmps27
    go_wp2_with fail
    refine HL.out.mono ?_
    rintro e w1 ⟨rfl, rfl⟩
    go_wp2_with fail
    refine HT.out.mono ?_
    rintro e w2 ⟨rfl, hb⟩
    have HB := hid hb
    clear hb
    go_wp2_with fail
    go_ret2
    exact ⟨by rw [HE.out, ← HTT.out]; rfl, HB.out⟩
theorem imListText (a : Option Addr) (len cap : Nat) (zs : List Int) (w : World) (h : SlV (Value.int .i64) w a len zs) (hl : len ≤ 1048576) (htab : Lib.TabBelow Tryd.prog w.heap.size w "internal/strconv.uint64pow10" .u64 Lib.pow10Tab) : Calls Tryd.prog 29 #[.slice a len cap] w fun e w' => e = .returned (.tuple #[.string ⟨(ltx zs len).1.toArray⟩, .bool (ltx zs len).2]) ∧ Below w.heap.size w w' := by
  have H := hid h
  have HTAB := hid htab
  have HL := hid (areValues a len cap zs w h hl)
  clear h htab
  cases hb : okAll zs && decide (len ≤ 64) with
  | false =>
    have HE : Hid (ltx zs len = ([], false)) := hid (by unfold ltx; rw [hb]; rfl)
    rw [hb] at HL
    clear hb
    go_enter Tryd.func29, Tryd.ntmps29
    go_wp2_with fail
    refine HL.out.mono ?_
    rintro e w1 ⟨rfl, rfl⟩
    go_wp2_with fail
    go_ret2
    exact ⟨by rw [HE.out]; rfl, Below.refl _ _⟩
  | true =>
    have HE : Hid (ltx zs len = (txt zs, true)) := hid (by unfold ltx; rw [hb]; rfl)
    rw [hb] at HL
    obtain ⟨h1, h2⟩ : okAll zs = true ∧ len ≤ 64 := by simpa using hb
    have HT := hid (listText a len cap zs w H.out h1 h2 HTAB.out)
    obtain ⟨t, ht⟩ : ∃ t : ByteArray, (⟨(txt zs).toArray⟩ : ByteArray) = t := ⟨_, rfl⟩
    rw [ht] at HT
    have HTT := hid ht
    clear hb h1 h2 ht
    go_enter Tryd.func29, Tryd.ntmps29
    go_wp2_with fail
    refine HL.out.mono ?_
    rintro e w1 ⟨rfl, rfl⟩
    go_wp2_with fail
    refine HT.out.mono ?_
    rintro e w2 ⟨rfl, hb⟩
    have HB := hid hb
    clear hb
    go_wp2_with fail
    go_ret2
    exact ⟨by rw [HE.out, ← HTT.out]; rfl, HB.out⟩
set_option maxHeartbeats 1000000 in
theorem fnExactListText (a : Option Addr) (len cap : Nat) (zs : List Int) (w : World) (hrow : IsRow .i64 w a len cap zs) (htab : Lib.TabBelow Tryd.prog w.heap.size w "internal/strconv.uint64pow10" .u64 Lib.pow10Tab) : Calls Tryd.prog 7 #[.slice a len cap] w fun e w' => e = .returned (.bool true) ∧ Below w.heap.size w w' := by
  obtain ⟨h, hwf, hmax⟩ := hrow
  unfold maxLen at hmax
  by_cases hbig : 1048576 < len
  · go_enter Tryd.func7, Tryd.ntmps7
    go_wp2_with fail
    go_ret
    exact ⟨rfl, Below.refl _ _⟩
  · have hl : len ≤ 1048576 := by omega
    have H := hid h
    have HTAB := hid htab
    obtain ⟨t, d, hF⟩ : ∃ (t : ByteArray) (d : Bool), ∀ (a' : Option Addr) (c : Nat) (w' : World), SlV (Value.int .i64) w' a' len zs → (Calls Tryd.prog 27 #[.slice a' len c] w' fun e w'' => e = .returned (.tuple #[.string t, .bool d]) ∧ Below w'.heap.size w' w'') ∧ (Lib.TabBelow Tryd.prog w'.heap.size w' "internal/strconv.uint64pow10" .u64 Lib.pow10Tab → Calls Tryd.prog 29 #[.slice a' len c] w' fun e w'' => e = .returned (.tuple #[.string t, .bool d]) ∧ Below w'.heap.size w' w'') :=
      ⟨_, _, fun a' c w' h => ⟨spListText a' len c zs w' h hl, imListText a' len c zs w' h hl⟩⟩
    have HF := hid hF
    clear h hwf hbig hF htab
    go_enter Tryd.func7, Tryd.ntmps7
    go_wp2_with fail
    refine (toI _ _ _ zs _ H.out hl).mono ?_
    rintro e w1 ⟨a1, rfl, s1, b1⟩
    go_wp2_with fail
    refine (HF.out _ _ _ s1).1.mono ?_
    rintro e w2 ⟨rfl, b2⟩
    have b2' := below_to b1 b2
    clear b1 b2 s1
    go_wp2_with fail
    refine (toI _ _ _ zs _ (H.out.below b2') hl).mono ?_
    rintro e w3 ⟨a3, rfl, s3, b3⟩
    have b3' := below_to b2' b3
    clear b2' b3
    go_wp2_with fail
    refine ((HF.out _ _ _ s3).2 (Lib.tabBelow_of_tabIs (HTAB.out.on b3').here)).mono ?_
    rintro e w4 ⟨rfl, b4⟩
    have s4 := s3.below b4
    have b4' := below_to b3' b4
    clear b3' b4 s3
    go_wp2_with fail
    refine (toI _ _ _ zs _ (H.out.below b4') hl).mono ?_
    rintro e w5 ⟨a5, rfl, s5, b5⟩
    have s5' := s4.below b5
    have b5' := below_to b4' b5
    clear b4' b5 s4
    go_wp2_with fail
    refine (eqI _ _ _ _ _ zs _ s5' s5 hl).mono ?_
    rintro e w' ⟨rfl, n6, rfl⟩
    go_wp2_with fail
    go_ret
    exact ⟨rfl, below_dr b5' _⟩
end Walk
end Go.Proofs.YtimablpgikebgaaDoor
