/- Decimal numerals: the reference's way of writing one. No condition. -/
import Derived.Test.YtimablpgikebgaaDoorChecked
import Derived.Test.YtimablpgikebgaaDoorSf
import Derived.WalkKit
import Derived.WalkLawsBesides
import Derived.Lib.ItoaLen
import Derived.Laws.IdiomStrings
import Derived.Maps.AppendAt
import Derived.OwnWalk
import Derived.IntWalk
namespace Go.Proofs.YtimablpgikebgaaDoor
open Go.RowKit
set_option linter.unusedVariables false
set_option linter.unusedSimpArgs false
namespace Walk
theorem hid {p : Prop} (h : p) : Hid p := h
theorem below_to {w w' w'' : World} (h : Below w.heap.size w w') (g : Below w'.heap.size w' w'') : Below w.heap.size w w'' := h.trans (g.mono h.size)
theorem infoB : (Tryd.prog.info? 5).map (fun i => (i.zero, i.size, i.bytes)) = some (some (.int .u8 0), 1, 1) := by kernel_rfl
/-- The digits so far of u, when q is what is left. -/
def DecInv (u q : Nat) (l : List UInt8) : Prop := (l = [] ∧ q = u) ∨ (l ≠ [] ∧ Lib.decDigits u = if q = 0 then l else Lib.decDigits q ++ l)
theorem DecInv.start (u : Nat) : DecInv u u [] := .inl ⟨rfl, rfl⟩
theorem DecInv.step {u q : Nat} {l : List UInt8} (h : DecInv u q l) (hq : l = [] ∨ q ≠ 0) : DecInv u (q / 10) (UInt8.ofNat (48 + q % 10) :: l) := by
  refine .inr ⟨by simp, ?_⟩
  have key : Lib.decDigits q = if q / 10 = 0 then [UInt8.ofNat (48 + q % 10)] else Lib.decDigits (q / 10) ++ [UInt8.ofNat (48 + q % 10)] := by
    rw [Lib.decDigits]
    by_cases hlt : q < 10
    · rw [dif_pos hlt, if_pos (by omega), Nat.mod_eq_of_lt hlt]
    · rw [dif_neg hlt, if_neg (by omega)]
  rcases h with ⟨rfl, rfl⟩ | ⟨hl, he⟩
  · rw [key]
  · have hq0 : q ≠ 0 := by
      rcases hq with h | h
      · exact absurd h hl
      · exact h
    rw [he, if_neg hq0, key]
    split <;> simp
theorem DecInv.done {u : Nat} {l : List UInt8} (h : DecInv u 0 l) (hl : l ≠ []) : l = Lib.decDigits u := by
  rcases h with ⟨h, _⟩ | ⟨_, h⟩
  · exact absurd h hl
  · rw [h, if_pos rfl]
theorem DecInv.len {u q : Nat} {l : List UInt8} (h : DecInv u q l) (hu : u < 18446744073709551616) : l.length ≤ 20 := by
  rcases h with ⟨rfl, _⟩ | ⟨_, h⟩
  · simp
  · have h1 := Lib.nDigits_le20 u hu
    rw [← Lib.decDigits_length, h] at h1
    split at h1
    · exact h1
    · rw [List.length_append] at h1; omega
/-- A list of bytes that the call made. -/
def OwnB (B : Nat) (w : World) (v : Value) (l : List UInt8) : Prop := ∃ b cap, v = .slice (some ⟨b, 0, none⟩) l.length cap ∧ B ≤ b ∧ b < w.heap.size ∧ ∀ j (h : j < l.length), w.cell? ⟨b, j, none⟩ = some (.int .u8 (l[j].toNat : Int))
theorem OwnB.below {B : Nat} {w w' : World} {v : Value} {l : List UInt8} (h : OwnB B w v l) (b : Below w.heap.size w w') : OwnB B w' v l := by
  obtain ⟨g, cap, hv, h1, h2, hc⟩ := h
  exact ⟨g, cap, hv, h1, Nat.lt_of_lt_of_le h2 b.size, fun j hj => (b.cell (p := ⟨g, j, none⟩) h2).trans (hc j hj)⟩
/-- 'append([]byte{c}, out...)': c before the list. -/
theorem wpList_cons {wq : World} {ops : Array Oper} {rest : List Oper} {o : Oper} {a : Act} {Q : Exit → Act → World → Prop} (hgd : o.guard = none) (s x : Operand)
    (ho : o.op = .call { callee := .builtin .append, args := #[s, x], argTypes := #[79, 79] }) (B : Nat) (hB : B ≤ wq.heap.size) (c : UInt8) (z : Int) (hz : (c.toNat : Int) = z) (l : List UInt8) (v : Value) (hl : l.length ≤ 100)
    (hs : a.eval s = .slice (some ⟨wq.heap.size, 0, none⟩) 1 1) (hx : a.eval x = v) (hown : OwnB B wq v l)
    (h : ∀ v' w1, OwnB B w1 v' (c :: l) → Below B wq w1 → wpList Tryd.prog ops Q rest (a.put o.dst v') w1) : wpList Tryd.prog ops Q (o :: rest) a (wq.alloc (.cells #[.int .u8 z] 5)) := by
  subst hz
  obtain ⟨i0, hi, hz0, hz1, hz2⟩ := info_parts infoB
  obtain ⟨g, cap, rfl, h1, h2, hc⟩ := hown
  have hmade := World.ownsRow_made (size := 1) (e := 5) wq #[.int .u8 (c.toNat : Int)] 1 (Nat.le_refl _) (by unfold maxLen; omega) rfl
  have hmade2 : (wq.alloc (.cells #[.int .u8 (c.toNat : Int)] 5)).ownsRow B 5 1 (.slice (some ⟨wq.heap.size, 0, none⟩) 1 1) 1 [.int .u8 (c.toNat : Int)] :=
    ⟨rfl, .inr ⟨wq.heap.size, 1, _, rfl, hB, (MapKept.heap_alloc wq _).1, Nat.le_refl _, by unfold maxLen; omega, rfl, rfl⟩⟩
  refine wpList_append_own_at _ hgd s x 79 ho B 5 i0 (.int .u8 0) 1 1 Tryd.underlying79 hi hz0 hz1 hz2 rfl (by decide) _ 1 _ hs hmade2 ⟨g, 0, none⟩ l.length cap (Lib.byteCells l) hx (by rw [Lib.byteCells_length, Nat.mul_one]) ?_ ?_ (by unfold maxLen; omega) (by omega) (by simp; omega) ?_
  · intro j u hj
    have hjl : j < l.length := by have := (List.getElem?_eq_some_iff.1 hj).1; rwa [Lib.byteCells_length] at this
    have := hc j hjl
    rw [Addr.add_lit, Nat.zero_add, (Below.alloc (Below.refl wq.heap.size wq) (Nat.le_refl _) (.cells #[.int .u8 (c.toNat : Int)] 5)).cell (p := ⟨g, j, none⟩) h2, this]
    rw [← hj]
    simp [Lib.byteCells, hjl]
  · intro u hu
    obtain ⟨y, _, rfl⟩ := List.mem_map.1 hu
    rfl
  · intro v' w1 hown1 hgrow _ hat
    have hb : Below B wq w1 := ((Below.refl B wq).alloc hB _).grown hgrow (by simp; omega) (fun q hq => (hmade2.lt q hq).1)
    refine h v' w1 ?_ hb
    rcases hown1.2 with ⟨-, h0⟩ | ⟨g', cap', cur, rfl, hbg, hg, -, -, -, -⟩
    · simp at h0
    · refine ⟨g', cap', by simp [Nat.add_comm], hbg, (Array.getElem?_eq_some_iff.1 hg).1, fun j hj => ?_⟩
      have := hown1.cells (g := g') rfl j (.int .u8 ((c :: l)[j].toNat : Int)) (by
        cases j with
        | zero => rfl
        | succ j => simp [Lib.byteCells]; simp at hj; exact ⟨l[j], by simp [hj], rfl⟩)
      rw [Addr.add_lit, Nat.zero_add] at this
      exact this
theorem own_made (w : World) : OwnB w.heap.size (w.alloc (.cells #[] 5)) (.slice (some ⟨w.heap.size, 0, none⟩) 0 0) [] :=
  ⟨w.heap.size, 0, rfl, Nat.le_refl _, by simp, fun j h => absurd h (Nat.not_lt_zero _)⟩
theorem byteOf (d : Nat) (h : d < 10) : ((UInt8.ofNat (48 + d)).toNat : Int) = 48 + (d : Int) := by
  rw [UInt8.toNat_ofNat']
  omega
def lenV : Value → Nat
  | .slice _ n _ => n
  | _ => 0
def decM (v r : Value) : Nat := 2 * (intOf r).natAbs + (if lenV v = 0 then 1 else 0)
set_option maxRecDepth 100000 in
set_option maxHeartbeats 4000000 in
theorem l01Dec (n : Int) (h0 : -9223372036854775808 ≤ n) (h1 : n ≤ 9223372036854775807) (w : World) : Calls Tryd.prog 44 #[.int .i64 n] w fun e w' => e = .returned (.string ⟨(Lib.itoa n).toArray⟩) ∧ Below w.heap.size w w' := by
  have HU : Hid (n.natAbs < 18446744073709551616) := hid (by omega)
  have HN0 := hid h0
  have HN1 := hid h1
  clear h0 h1
  go_enter Tryd.func44, Tryd.ntmps44
  go_wp2_with fail
  go_loopw [3, 4, 5] (fun v r d wr => ∃ (q : Int) (l : List UInt8), OwnB w.heap.size wr v l ∧ r = .int .i64 q ∧ Hid (q.natAbs ≤ n.natAbs) ∧ DecInv n.natAbs q.natAbs l ∧ Below w.heap.size w wr) (fun v r _ _ => decM v r)
  case atStart => exact ⟨n, [], own_made w, rfl, hid (Nat.le_refl _), DecInv.start _, Below.alloc (Below.refl _ _) (Nat.le_refl _) _⟩
  case round =>
    obtain ⟨q, l, hown, rfl, HQ, hinv, hbel⟩ := hrel
    have HOWN := hid hown
    have HINV := hid hinv
    have HBEL := hid hbel
    obtain ⟨g, cap, rfl, -, hgw, -⟩ := hown
    have HL := hid (hinv.len HU.out)
    obtain ⟨m, hm⟩ : ∃ m, l.length = m := ⟨_, rfl⟩
    have HM := hid hm
    rw [hm]
    have HOWN2 : Hid (OwnB w.heap.size wr (.slice (some ⟨g, 0, none⟩) m cap) l) := hid (by rw [← hm]; exact HOWN.out)
    clear hm hinv hbel HOWN
    by_cases hend : m = 0 ∨ q ≠ 0
    · have ht : (((m : Int) == 0) || (q != 0)) = true := by
        rcases hend with h | h
        · subst h; rfl
        · simp [h]
      have HLQ : Hid (l = [] ∨ q.natAbs ≠ 0) := hid (by
        rcases hend with h | h
        · exact .inl (List.eq_nil_of_length_eq_zero (by rw [HM.out, h]))
        · exact .inr (by omega))
      obtain ⟨dm, hdm⟩ : ∃ d, q.tmod 10 = d := ⟨_, rfl⟩
      obtain ⟨q2, hq2⟩ : ∃ d, q.tdiv 10 = d := ⟨_, rfl⟩
      have a1 : dm.natAbs = q.natAbs % 10 := by rw [← hdm, Int.natAbs_tmod]; rfl
      have a2 : q2.natAbs = q.natAbs / 10 := by rw [← hq2, Int.natAbs_tdiv]; rfl
      have b1 : -9 ≤ dm := by omega
      have b2 : dm ≤ 9 := by omega
      have HA2 := hid a2
      have HSTEP : Hid (DecInv n.natAbs q2.natAbs (UInt8.ofNat (48 + dm.natAbs) :: l)) := hid (by rw [a2, a1]; exact HINV.out.step HLQ.out)
      have HB : Hid (((UInt8.ofNat (48 + dm.natAbs)).toNat : Int) = 48 + (dm.natAbs : Int)) := hid (byteOf _ (by omega))
      have HM2 : Hid (2 * q2.natAbs < decM (.slice (some ⟨g, 0, none⟩) m cap) (.int .i64 q)) := hid (by
        unfold decM lenV intOf
        simp only
        rcases hend with h | h
        · rw [if_pos h]; omega
        · have : q.natAbs ≠ 0 := by omega
          split <;> omega)
      have HQ2 : Hid (q2.natAbs ≤ n.natAbs) := hid (by have := HQ.out; omega)
      have hw2 : IntKind.i64.wrap q2 = q2 := IntWalk.i64_in _ (by have := HQ.out; have := HU.out; omega)
      clear a1 a2
      by_cases hneg : dm < 0
      · have HZ : Hid (((UInt8.ofNat (48 + dm.natAbs)).toNat : Int) = 48 + -dm) := hid (by rw [HB.out]; omega)
        by_cases hm0 : m = 0
        · subst hm0
          clear ht hend
          go_wp2_with (at_builtin; refine wpList_cons rfl (.tmp 24) (.tmp 25) rfl w.heap.size HBEL.out.size (UInt8.ofNat (48 + dm.natAbs)) (48 + -dm) HZ.out l _ (by have := HL.out; omega) rfl rfl HOWN2.out ?_; intro v' w1 ho1 hb1; have HO1 := hid ho1; have HB1 := hid (HBEL.out.trans hb1); obtain ⟨g1, c1, hv1, -⟩ := ho1; subst hv1; clear hb1)
          go_roundw
          case rel => exact ⟨q2, _, HO1.out, rfl, HQ2, HSTEP.out, HB1.out⟩
          case measure => exact Nat.lt_of_le_of_lt (by simp [decM, lenV, intOf]) HM2.out
        · have hm1 : ((m : Int) == 0) = false := by simpa using hm0
          have hq0 : (q != 0) = true := by
            rcases hend with h | h
            · exact absurd h hm0
            · simpa using h
          clear ht hend
          go_wp2_with (at_builtin; refine wpList_cons rfl (.tmp 24) (.tmp 25) rfl w.heap.size HBEL.out.size (UInt8.ofNat (48 + dm.natAbs)) (48 + -dm) HZ.out l _ (by have := HL.out; omega) rfl rfl HOWN2.out ?_; intro v' w1 ho1 hb1; have HO1 := hid ho1; have HB1 := hid (HBEL.out.trans hb1); obtain ⟨g1, c1, hv1, -⟩ := ho1; subst hv1; clear hb1)
          go_roundw
          case rel => exact ⟨q2, _, HO1.out, rfl, HQ2, HSTEP.out, HB1.out⟩
          case measure => exact Nat.lt_of_le_of_lt (by simp [decM, lenV, intOf]) HM2.out
      · have HZ : Hid (((UInt8.ofNat (48 + dm.natAbs)).toNat : Int) = 48 + dm) := hid (by rw [HB.out]; omega)
        by_cases hm0 : m = 0
        · subst hm0
          clear ht hend
          go_wp2_with (at_builtin; refine wpList_cons rfl (.tmp 24) (.tmp 25) rfl w.heap.size HBEL.out.size (UInt8.ofNat (48 + dm.natAbs)) (48 + dm) HZ.out l _ (by have := HL.out; omega) rfl rfl HOWN2.out ?_; intro v' w1 ho1 hb1; have HO1 := hid ho1; have HB1 := hid (HBEL.out.trans hb1); obtain ⟨g1, c1, hv1, -⟩ := ho1; subst hv1; clear hb1)
          go_roundw
          case rel => exact ⟨q2, _, HO1.out, rfl, HQ2, HSTEP.out, HB1.out⟩
          case measure => exact Nat.lt_of_le_of_lt (by simp [decM, lenV, intOf]) HM2.out
        · have hm1 : ((m : Int) == 0) = false := by simpa using hm0
          have hq0 : (q != 0) = true := by
            rcases hend with h | h
            · exact absurd h hm0
            · simpa using h
          clear ht hend
          go_wp2_with (at_builtin; refine wpList_cons rfl (.tmp 24) (.tmp 25) rfl w.heap.size HBEL.out.size (UInt8.ofNat (48 + dm.natAbs)) (48 + dm) HZ.out l _ (by have := HL.out; omega) rfl rfl HOWN2.out ?_; intro v' w1 ho1 hb1; have HO1 := hid ho1; have HB1 := hid (HBEL.out.trans hb1); obtain ⟨g1, c1, hv1, -⟩ := ho1; subst hv1; clear hb1)
          go_roundw
          case rel => exact ⟨q2, _, HO1.out, rfl, HQ2, HSTEP.out, HB1.out⟩
          case measure => exact Nat.lt_of_le_of_lt (by simp [decM, lenV, intOf]) HM2.out
    · obtain ⟨hm0, hq0⟩ : m ≠ 0 ∧ q = 0 := by
        constructor
        · intro h; exact hend (.inl h)
        · by_cases h : q = 0
          · exact h
          · exact absurd (.inr h) hend
      subst hq0
      have hm1 : ((m : Int) == 0) = false := by simpa using hm0
      have HLD : Hid (l = Lib.decDigits n.natAbs) := hid (HINV.out.done (by intro h; rw [h] at HM; exact hm0 (by rw [← HM.out]; rfl)))
      clear hend hm0
      by_cases hneg : n < 0
      · have HIT : Hid (Lib.itoa n = 45 :: l) := hid (by rw [Lib.itoa, if_pos hneg, HLD.out])
        go_wp2_with (at_builtin; refine wpList_cons rfl (.tmp 31) (.tmp 32) rfl w.heap.size HBEL.out.size 45 45 rfl l _ (by have := HL.out; omega) rfl rfl HOWN2.out ?_; intro v' w1 ho1 hb1; have HB1 := hid (HBEL.out.trans hb1); obtain ⟨g1, c1, hv1, -, -, hc1⟩ := ho1; subst hv1; have hcv := run_convert_bytes_back (P := Tryd.prog) w1 79 9 5 ⟨g1, 0, none⟩ c1 (45 :: l) Tryd.underlying79 Tryd.underlying5 Tryd.underlying9 (fun j hj => by rw [Addr.add_lit, Nat.zero_add]; exact hc1 j hj); clear hb1 hc1; obtain ⟨L, hL⟩ : ∃ L, 45 :: l = L := ⟨_, rfl⟩; rw [hL] at hcv HIT ⊢; obtain ⟨M, hM⟩ : ∃ M, L.length = M := ⟨_, rfl⟩; rw [hM] at hcv ⊢; clear hL hM)
        go_ret
        exact ⟨by rw [HIT.out]; rfl, HB1.out⟩
      · have HIT : Hid (Lib.itoa n = l) := hid (by rw [Lib.itoa, if_neg hneg, HLD.out]; congr 1; omega)
        obtain ⟨g1, c1, hv1, -, -, hc1⟩ := HOWN2.out
        have hv2 : g1 = g ∧ c1 = cap := by injection hv1 with h1 h2 h3; injection h1 with h4; injection h4 with h5 h6 h7; exact ⟨h5.symm, h3.symm⟩
        obtain ⟨rfl, rfl⟩ := hv2
        have hcv := run_convert_bytes_back (P := Tryd.prog) wr 79 9 5 ⟨g1, 0, none⟩ c1 l Tryd.underlying79 Tryd.underlying5 Tryd.underlying9 (fun j hj => by rw [Addr.add_lit, Nat.zero_add]; exact hc1 j hj)
        rw [HM.out] at hcv
        clear hc1 hv1
        go_wp2_with fail
        go_ret
        exact ⟨by rw [HIT.out]; rfl, HBEL.out⟩
end Walk
end Go.Proofs.YtimablpgikebgaaDoor
