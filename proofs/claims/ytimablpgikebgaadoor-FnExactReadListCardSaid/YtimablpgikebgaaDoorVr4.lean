/- Reading lists: marks, and the law. No condition but what the row lists. -/
import Derived.Test.YtimablpgikebgaaDoorVr3
namespace Go.Proofs.YtimablpgikebgaaDoor
open Go.RowKit Sl
set_option linter.unusedVariables false
set_option linter.unusedSimpArgs false
namespace Walk
theorem Pk.slV {B : Nat} {w : World} {a : Option Addr} {len cap : Nat} {zs : List Int} (h : Pk B w (.slice a len cap) zs) : len = zs.length ∧ SlV (Value.int .i64) w a len zs := by
  obtain ⟨a', cap', hv, h⟩ := h
  injection hv with e1 e2 e3
  subst e1
  subst e2
  refine ⟨rfl, rfl, fun h0 => ?_⟩
  obtain ⟨g, cur, rfl, h1, hg, h2, h3⟩ := h h0
  refine ⟨g, 0, rfl, (Array.getElem?_eq_some_iff.1 hg).1, fun i hi => ?_⟩
  have : cur[i]? = some (Value.int .i64 (zs.getD i default)) := by
    have := congrArg (·[i]?) h3
    simp only [List.getElem?_take_of_lt hi, List.getElem?_map, Array.getElem?_toList, List.getElem?_eq_getElem hi, Option.map_some] at this
    rw [this, List.getD_eq_getElem?_getD, List.getElem?_eq_getElem hi]
    rfl
  simp only [World.cell?, hg, Nat.zero_add]
  exact this
/-- The row as it stands after k marks. -/
structure Mk (w : World) (g len k : Nat) (B : Nat) (wr : World) : Prop where
  below : Below B w wr
  cell : ∀ j, j < len → ∃ v, wr.cell? ⟨g, j, none⟩ = some v ∧ (j < k → v = .int .i64 ((j : Int) + 1))
  free : ∀ j, wr.frozen? ⟨g, j, none⟩ = false
theorem Mk.start {B : Nat} {w : World} {a : Option Addr} {cap : Nat} {zs : List Int} {g : Nat} {cur : Array Value} (hg : w.heap[g]? = some (.cells cur 2 (0, 0))) (hl : zs.length ≤ cur.size) : Mk w g zs.length 0 B w := by
  refine ⟨Below.refl _ _, fun j hj => ?_, fun j => ?_⟩
  · have hj2 : j < cur.size := by omega
    exact ⟨cur[j], by simp [World.cell?, hg, hj2], fun h => absurd h (Nat.not_lt_zero _)⟩
  · simp [World.frozen?, hg]
theorem Mk.step {w wr : World} {g len k B : Nat} (h : Mk w g len k B wr) (hk : k < len) (hB : B ≤ g) : Mk w g len (k + 1) B (wr.setCell ⟨g, k, none⟩ (.int .i64 ((k : Int) + 1))) := by
  refine ⟨h.below.setCell (by simpa using hB) _, fun j hj => ?_, fun j => ?_⟩
  · obtain ⟨v, hc, hv⟩ := h.cell j hj
    by_cases e : j = k
    · subst e
      exact ⟨_, World.cell?_setCell_same _ _ _ hc, fun _ => rfl⟩
    · have e2 : (⟨g, k, none⟩ : Addr) ≠ ⟨g, j, none⟩ := by
        intro h; injection h with h1 h2; exact e h2.symm
      refine ⟨v, by rw [World.cell?_setCell_other _ _ _ _ e2, hc], fun hj2 => hv (by omega)⟩
  · simp [h.free j]
/-- The marks stand. -/
def Marked (w : World) (a : Option Addr) (len : Nat) : Prop := 0 < len → ∃ g, a = some ⟨g, 0, none⟩ ∧ g < w.heap.size ∧ ∀ j, j < len → w.cell? ⟨g, j, none⟩ = some (.int .i64 ((j : Int) + 1))
theorem Marked.below {w w' : World} {a : Option Addr} {len : Nat} (h : Marked w a len) (b : Below w.heap.size w w') : Marked w' a len := by
  intro h0
  obtain ⟨g, ha, hg, hc⟩ := h h0
  exact ⟨g, ha, Nat.lt_of_lt_of_le hg b.size, fun j hj => by rw [b.cell (p := ⟨g, j, none⟩) hg]; exact hc j hj⟩
set_option maxHeartbeats 1000000 in
theorem mark (B : Nat) (a : Option Addr) (len cap : Nat) (zs : List Int) (w : World) (h : Pk B w (.slice a len cap) zs) (hl : len ≤ 1048576) : Calls Tryd.prog 13 #[.slice a len cap, .int .i64 1] w fun e w' => e = .returned (.int .i64 ((len : Int) + 1)) ∧ Marked w' a len ∧ Below B w w' := by
  obtain ⟨hlz, -⟩ := h.slV
  by_cases h0 : len = 0
  · subst h0
    go_enter Tryd.func13, Tryd.ntmps13
    go_wp2
    go_loopw [1, 5] (fun n i wr => n = .int .i64 1 ∧ i = .int .i64 (0 : Nat) ∧ wr = w) (fun _ _ _ => 0)
    case atStart => exact ⟨rfl, rfl, rfl⟩
    case round =>
      obtain ⟨rfl, rfl, rfl⟩ := hrel
      go_wp2
      go_ret
      exact ⟨rfl, fun h => absurd h (Nat.not_lt_zero _), Below.refl _ _⟩
  · obtain ⟨a', cap', hv, h2⟩ := h
    injection hv with e1 e2 e3
    subst e1
    obtain ⟨g, cur, rfl, hB, hg, hcur, -⟩ := h2 (by omega)
    have HST := hid (Mk.start (B := B) (a := none) (cap := 0) hg hcur)
    have HGL := hid ((Array.getElem?_eq_some_iff.1 hg).1)
    rw [← hlz] at HST
    clear h2 hg hcur e2 e3 hlz
    go_enter Tryd.func13, Tryd.ntmps13
    go_wp2
    go_loopw [1, 5] (fun n i wr => ∃ k : Nat, k ≤ len ∧ n = .int .i64 ((k : Int) + 1) ∧ i = .int .i64 k ∧ Mk w g len k B wr) (fun _ i _ => len - (intOf i).toNat)
    case atStart => exact ⟨0, Nat.zero_le _, rfl, rfl, HST.out⟩
    case round =>
      obtain ⟨k, hk, rfl, rfl, hmk⟩ := hrel
      have HMK := hid hmk
      by_cases hlt : k < len
      · obtain ⟨v, hc, -⟩ := hmk.cell k hlt
        have hf := hmk.free k
        clear hmk
        go_wp2
        go_roundw
        case rel => exact ⟨k + 1, by omega, by go_num, by go_num, HMK.out.step hlt hB⟩
        case measure => simp [intOf]; omega
      · obtain rfl : k = len := by omega
        clear hmk
        go_wp2
        go_ret
        refine ⟨rfl, fun _ => ⟨g, rfl, Nat.lt_of_lt_of_le HGL.out HMK.out.below.size, fun j hj => ?_⟩, HMK.out.below⟩
        obtain ⟨v, hc, hv⟩ := HMK.out.cell j hj
        rw [hc, hv hj]
set_option maxHeartbeats 1000000 in
theorem held (a : Option Addr) (len cap : Nat) (w : World) (h : Marked w a len) (hl : len ≤ 1048576) : Calls Tryd.prog 14 #[.slice a len cap, .int .i64 1] w fun e w' => e = .returned (.int .i64 ((len : Int) + 1)) ∧ w' = w := by
  have H := hid h
  clear h
  go_enter Tryd.func14, Tryd.ntmps14
  go_wp2
  go_loop [1, 5] (fun n i => ∃ k : Nat, k ≤ len ∧ n = .int .i64 ((k : Int) + 1) ∧ i = .int .i64 k) (fun _ i => len - (intOf i).toNat)
  case atStart => exact ⟨0, Nat.zero_le _, rfl, rfl⟩
  case round =>
    obtain ⟨k, hk, rfl, rfl⟩ := hrel
    by_cases hlt : k < len
    · obtain ⟨g, rfl, hg, hc⟩ := H.out (by omega)
      have hc1 := hc k hlt
      clear hc
      go_wp2
      go_round
      case rel => exact ⟨k + 1, by omega, by go_num, by go_num⟩
      case measure => simp [intOf]; omega
    · obtain rfl : k = len := by omega
      go_wp2
      go_ret
      exact ⟨rfl, rfl⟩
theorem rdl_len (l : List UInt8) : (rdl l).1.length ≤ 64 := by
  unfold rdl
  split
  · exact Nat.zero_le _
  · split
    · rename_i h
      simp only [vals, List.length_map]
      exact h.1
    · exact Nat.zero_le _
theorem rdl_of (l : List UInt8) : rdl l = if (rdl' l).2 = true ∧ (rdl' l).1.length ≤ 64 then rdl' l else ([], false) := by
  unfold rdl rdl'
  by_cases h1 : l = [110, 111, 110, 101]
  · rw [if_pos h1, if_pos h1, if_pos ⟨rfl, Nat.zero_le _⟩]
  · rw [if_neg h1, if_neg h1]
    by_cases h2 : allD (Dec.cutL l) = true
    · rw [if_pos h2]
      by_cases h3 : (Dec.cutL l).length ≤ 64
      · rw [if_pos ⟨h3, h2⟩, if_pos ⟨rfl, by simpa [vals] using h3⟩]
      · rw [if_neg (fun h => h3 h.1), if_neg (fun h => h3 (by simpa [vals] using h.2))]
    · rw [if_neg h2, if_neg (fun h => h2 h.2), if_neg (fun h => by cases h.1)]
theorem spReadList (s : ByteArray) (hs : s.size ≤ 1048576) (w : World) : Calls Tryd.prog 10 #[.string s] w fun e w' => RetR s.data.toList w e w' := by
  have H := hid (l01Numbers s hs w)
  go_enter Tryd.func10, Tryd.ntmps10
  go_wp2_with fail
  refine H.out.mono ?_
  rintro e w1 ⟨v, rfl, hp, hb⟩
  have HP := hid hp
  have HB := hid hb
  clear hp hb
  go_wp2_with fail
  go_ret2
  exact ⟨v, rfl, HP.out, HB.out⟩
set_option maxRecDepth 100000 in
theorem imReadList (s : ByteArray) (hs : s.size ≤ 1048576) (w : World) (mx : Int) (hmx : w.cell? ⟨4, 0, none⟩ = some (.int .i64 mx)) (he1 : ErrAt w "strconv.ErrSyntax") (he2 : ErrAt w "strconv.ErrRange") (htab : Lib.TabBelow Tryd.prog w.heap.size w "internal/strconv.uint64pow10" .u64 Lib.pow10Tab) : Calls Tryd.prog 11 #[.string s] w fun e w' => RetR s.data.toList w e w' := by
  have H := hid (readList s hs w mx hmx he1 he2 htab)
  have HR := hid (rdl_of s.data.toList)
  clear hmx he1 he2 htab
  go_enter Tryd.func11, Tryd.ntmps11
  go_wp2_with fail
  refine H.out.mono ?_
  rintro e w1 ⟨v, rfl, hp, hb⟩
  obtain ⟨⟨zs, ok⟩, hr⟩ : ∃ r, rdl' s.data.toList = r := ⟨_, rfl⟩
  rw [hr] at hp HR ⊢
  have HP := hid hp
  have HB := hid hb
  obtain ⟨a, cap, rfl, -⟩ := hp
  obtain ⟨m, hm⟩ : ∃ m, zs.length = m := ⟨_, rfl⟩
  have HM := hid hm
  rw [hm]
  have HP2 : Hid (Pk w.heap.size w1 (.slice a m cap) zs) := hid (by rw [← hm]; exact HP.out)
  clear hb hr hm HP
  cases ok with
  | false =>
    have HRN : Hid (rdl s.data.toList = ([], false)) := hid (by rw [HR.out]; rfl)
    go_wp2_with fail
    go_ret2
    exact ⟨_, by rw [HRN.out]; rfl, by rw [HRN.out]; exact Pk.nil _ _, HB.out⟩
  | true =>
    by_cases h64 : 64 < m
    · have HRN : Hid (rdl s.data.toList = ([], false)) := hid (by rw [HR.out, if_neg (fun h => by have h2 : zs.length ≤ 64 := h.2; have := HM.out; omega)])
      go_wp2_with fail
      go_ret2
      exact ⟨_, by rw [HRN.out]; rfl, by rw [HRN.out]; exact Pk.nil _ _, HB.out⟩
    · have HRY : Hid (rdl s.data.toList = (zs, true)) := hid (by rw [HR.out, if_pos ⟨rfl, by rw [HM.out]; omega⟩])
      go_wp2_with fail
      go_ret2
      exact ⟨_, by rw [HRY.out]; rfl, by rw [HRY.out]; exact HP2.out, HB.out⟩
set_option maxRecDepth 100000 in
set_option maxHeartbeats 1000000 in
theorem fnExactReadList (a0 : ByteArray) (w : World) (w0 : a0.size ≤ maxLen) (htab : Lib.TabBelow Tryd.prog w.heap.size w "internal/strconv.uint64pow10" .u64 Lib.pow10Tab) (he1 : ErrAt w "strconv.ErrSyntax") (he2 : ErrAt w "strconv.ErrRange") (hS : w.ShapedOpen Tryd.prog) :
    Calls Tryd.prog 3 #[.string a0] w fun e w' => e = .returned (.bool true) ∧ Below w.heap.size w w' := by
  obtain ⟨mx, hmx⟩ : ∃ m, w.cell? ⟨4, 0, none⟩ = some (.int .i64 m) := Tryd.laysM146.s1_3 w hS
  have HT := hid htab
  have HE1 := hid he1
  have HE2 := hid he2
  have HMX := hid hmx
  have HMXB := hid (block_lt hmx)
  clear htab he1 he2 hmx hS
  by_cases hbig : 1048576 < a0.size
  · go_enter Tryd.func3, Tryd.ntmps3
    go_wp2
    go_ret
    exact ⟨rfl, Below.refl _ _⟩
  · have hle : a0.size ≤ 1048576 := by omega
    have H10 := hid (fun w => spReadList a0 hle w)
    have H11 : Hid (∀ w', Below w.heap.size w w' → Calls Tryd.prog 11 #[.string a0] w' fun e w'' => RetR a0.data.toList w' e w'') := hid (fun w' hb => imReadList a0 hle w' mx ((hb.cell (p := ⟨4, 0, none⟩) HMXB.out).trans HMX.out) (HE1.out.on hb) (HE2.out.on hb) (Lib.tabBelow_of_tabIs (HT.out.on hb).here))
    have hlen := rdl_len a0.data.toList
    unfold RetR at H10 H11
    obtain ⟨⟨zs, ok⟩, hr⟩ : ∃ r, rdl a0.data.toList = r := ⟨_, rfl⟩
    rw [hr] at hlen
    simp only [hr] at H10 H11
    obtain ⟨m, hm⟩ : ∃ m, zs.length = m := ⟨_, rfl⟩
    have HM := hid hm
    have hml : m ≤ 64 := by rw [← hm]; exact hlen
    clear hr hlen hm
    go_enter Tryd.func3, Tryd.ntmps3
    go_wp2_with fail
    refine (H10.out w).mono ?_
    rintro e w1 ⟨v1, rfl, hp1, b1⟩
    obtain ⟨a1, c1, hv1, -⟩ := id hp1
    rw [HM.out] at hv1
    subst hv1
    have S1 := hid hp1.slV.2
    have B1 := hid b1
    clear hp1 b1
    go_wp2_with fail
    refine (H11.out w1 B1.out).mono ?_
    rintro e w2 ⟨v2, rfl, hp2, b2⟩
    obtain ⟨a2, c2, hv2, -⟩ := id hp2
    rw [HM.out] at hv2
    subst hv2
    have P2 := hid hp2
    have B2 := hid b2
    clear hp2 b2
    go_wp2_with fail
    refine (eqI _ _ _ _ _ zs _ P2.out.slV.2 (S1.out.below B2.out) (by omega)).mono ?_
    rintro e w' ⟨rfl, n1, rfl⟩
    go_wp2_with fail
    have P2' : Pk w1.heap.size (w2.drewN n1) (.slice a2 m c2) zs := P2.out
    refine (mark w1.heap.size a2 m c2 zs _ P2' (by omega)).mono ?_
    rintro e w3 ⟨rfl, hmk, b3⟩
    have MK := hid hmk
    have B3 : Hid (Below w1.heap.size w1 w3) := hid ((below_dr B2.out n1).trans b3)
    clear hmk b3 P2'
    go_wp2_with fail
    refine (held a2 m c2 _ MK.out (by omega)).mono ?_
    rintro e w4 ⟨rfl, rfl⟩
    go_wp2_with fail
    refine (H11.out w4 (below_to B1.out B3.out)).mono ?_
    rintro e w5 ⟨v5, rfl, hp5, b5⟩
    obtain ⟨a5, c5, hv5, -⟩ := id hp5
    rw [HM.out] at hv5
    subst hv5
    have S5 := hid hp5.slV.2
    have B5 := hid b5
    clear hp5 b5
    go_wp2_with fail
    refine (eqI _ _ _ _ _ zs _ S5.out ((S1.out.below B3.out).below B5.out) (by omega)).mono ?_
    rintro e w' ⟨rfl, n2, rfl⟩
    have MK5 : Marked (w5.drewN n2) a2 m := MK.out.below (below_dr B5.out n2)
    go_wp2_with fail
    refine (held a2 m c2 _ MK5 (by omega)).mono ?_
    rintro e w6 ⟨rfl, rfl⟩
    clear MK5
    go_wp2_with fail
    go_ret
    exact ⟨rfl, below_dr (below_to (below_to B1.out B3.out) B5.out) _⟩
end Walk
end Go.Proofs.YtimablpgikebgaaDoor
