/- Numbers read: marks, and the law. No condition but what the row lists. -/
import Derived.Test.YtimablpgikebgaaDoorVu4
namespace Go.Proofs.YtimablpgikebgaaDoor
open Go.RowKit Sl Flo Iee
set_option linter.unusedVariables false
set_option linter.unusedSimpArgs false
namespace Walk
theorem nan_fin : ∀ i : Fin 258, (FloatKind.f32.format.order (floatOfInt .f32 (i.val : Int)) (floatOfInt .f32 (i.val : Int)) != some .eq) = false := by decide +kernel
theorem nan_no (k : Nat) (h : k ≤ 256) : (FloatKind.f32.format.order (floatOfInt .f32 ((k : Int) + 1)) (floatOfInt .f32 ((k : Int) + 1)) != some .eq) = false := nan_fin ⟨k + 1, by omega⟩
/-- The row as it stands after k marks. -/
structure MkF (w : World) (g len k : Nat) (B : Nat) (wr : World) : Prop where
  below : Below B w wr
  cell : ∀ j, j < len → ∃ v, wr.cell? ⟨g, j, none⟩ = some v ∧ (j < k → v = .float .f32 (floatOfInt .f32 ((j : Int) + 1)))
  free : ∀ j, wr.frozen? ⟨g, j, none⟩ = false
theorem MkF.start {B : Nat} {w : World} {a : Option Addr} {cap : Nat} {zs : List Nat} {g : Nat} {cur : Array Value} (hg : w.heap[g]? = some (.cells cur 51 (0, 0))) (hl : zs.length ≤ cur.size) : MkF w g zs.length 0 B w := by
  refine ⟨Below.refl _ _, fun j hj => ?_, fun j => ?_⟩
  · have hj2 : j < cur.size := by omega
    exact ⟨cur[j], by simp [World.cell?, hg, hj2], fun h => absurd h (Nat.not_lt_zero _)⟩
  · simp [World.frozen?, hg]
theorem MkF.step {w wr : World} {g len k B : Nat} (h : MkF w g len k B wr) (hk : k < len) (hB : B ≤ g) : MkF w g len (k + 1) B (wr.setCell ⟨g, k, none⟩ (.float .f32 (floatOfInt .f32 ((k : Int) + 1)))) := by
  refine ⟨h.below.setCell (by simpa using hB) _, fun j hj => ?_, fun j => ?_⟩
  · obtain ⟨v, hc, hv⟩ := h.cell j hj
    by_cases e : j = k
    · subst e
      exact ⟨_, World.cell?_setCell_same _ _ _ hc, fun _ => rfl⟩
    · have e2 : (⟨g, k, none⟩ : Addr) ≠ ⟨g, j, none⟩ := by
        intro h; injection h with h1 h2; exact e h2.symm
      refine ⟨v, by rw [World.cell?_setCell_other _ _ _ _ e2, hc], fun hj2 => hv (by omega)⟩
  · simp [h.free j]
/-- The marks stand. -/
def MarkedF (w : World) (a : Option Addr) (len : Nat) : Prop := 0 < len → ∃ g, a = some ⟨g, 0, none⟩ ∧ g < w.heap.size ∧ ∀ j, j < len → w.cell? ⟨g, j, none⟩ = some (.float .f32 (floatOfInt .f32 ((j : Int) + 1)))
theorem MarkedF.below {w w' : World} {a : Option Addr} {len : Nat} (h : MarkedF w a len) (b : Below w.heap.size w w') : MarkedF w' a len := by
  intro h0
  obtain ⟨g, ha, hg, hc⟩ := h h0
  exact ⟨g, ha, Nat.lt_of_lt_of_le hg b.size, fun j hj => by rw [b.cell (p := ⟨g, j, none⟩) hg]; exact hc j hj⟩
set_option maxHeartbeats 1000000 in
theorem markN (B : Nat) (a : Option Addr) (len cap : Nat) (zs : List Nat) (w : World) (h : PkF B w (.slice a len cap) zs) (hl : len ≤ 256) : Calls Tryd.prog 18 #[.slice a len cap, .int .i64 1] w fun e w' => e = .returned (.int .i64 ((len : Int) + 1)) ∧ MarkedF w' a len ∧ Below B w w' := by
  obtain ⟨hlz, -⟩ := h.slV
  by_cases h0 : len = 0
  · subst h0
    go_enter Tryd.func18, Tryd.ntmps18
    go_wp2
    go_loopw [1, 5] (fun n i wr => n = .int .i64 1 ∧ i = .int .i64 (0 : Nat) ∧ wr = w) (fun _ _ _ => 0)
    case atStart => exact ⟨rfl, rfl, rfl⟩
    case round =>
      obtain ⟨rfl, rfl, rfl⟩ := hrel
      go_wp2
      go_ret
      exact ⟨rfl, fun h => absurd h (Nat.not_lt_zero _), Below.refl _ _⟩
  · obtain ⟨a', cap', hv, h2⟩ := h
    injection hv with e1 e2 e3
    subst e1
    obtain ⟨g, cur, rfl, hB, hg, hcur, -⟩ := h2 (by omega)
    have HST := hid (MkF.start (B := B) (a := none) (cap := 0) hg hcur)
    have HGL := hid ((Array.getElem?_eq_some_iff.1 hg).1)
    rw [← hlz] at HST
    clear h2 hg hcur e2 e3 hlz
    go_enter Tryd.func18, Tryd.ntmps18
    go_wp2
    go_loopw [1, 5] (fun n i wr => ∃ k : Nat, k ≤ len ∧ n = .int .i64 ((k : Int) + 1) ∧ i = .int .i64 k ∧ MkF w g len k B wr) (fun _ i _ => len - (intOf i).toNat)
    case atStart => exact ⟨0, Nat.zero_le _, rfl, rfl, HST.out⟩
    case round =>
      obtain ⟨k, hk, rfl, rfl, hmk⟩ := hrel
      have HMK := hid hmk
      by_cases hlt : k < len
      · obtain ⟨v, hc, -⟩ := hmk.cell k hlt
        have hf := hmk.free k
        clear hmk
        go_wp2
        go_roundw
        case rel => exact ⟨k + 1, by omega, by go_num, by go_num, HMK.out.step hlt hB⟩
        case measure => simp [intOf]; omega
      · obtain rfl : k = len := by omega
        clear hmk
        go_wp2
        go_ret
        refine ⟨rfl, fun _ => ⟨g, rfl, Nat.lt_of_lt_of_le HGL.out HMK.out.below.size, fun j hj => ?_⟩, HMK.out.below⟩
        obtain ⟨v, hc, hv⟩ := HMK.out.cell j hj
        rw [hc, hv hj]
set_option maxHeartbeats 1000000 in
theorem heldN (a : Option Addr) (len cap : Nat) (w : World) (h : MarkedF w a len) (hl : len ≤ 256) : Calls Tryd.prog 19 #[.slice a len cap, .int .i64 1] w fun e w' => e = .returned (.int .i64 ((len : Int) + 1)) ∧ w' = w := by
  have H := hid h
  clear h
  go_enter Tryd.func19, Tryd.ntmps19
  go_wp2
  go_loop [1, 5] (fun n i => ∃ k : Nat, k ≤ len ∧ n = .int .i64 ((k : Int) + 1) ∧ i = .int .i64 k) (fun _ i => len - (intOf i).toNat)
  case atStart => exact ⟨0, Nat.zero_le _, rfl, rfl⟩
  case round =>
    obtain ⟨k, hk, rfl, rfl⟩ := hrel
    by_cases hlt : k < len
    · obtain ⟨g, rfl, hg, hc⟩ := H.out (by omega)
      have hc1 := hc k hlt
      have hnn := nan_no k (by omega)
      clear hc
      go_wp2
      go_round
      case rel => exact ⟨k + 1, by omega, by go_num, by go_num⟩
      case measure => simp [intOf]; omega
    · obtain rfl : k = len := by omega
      go_wp2
      go_ret
      exact ⟨rfl, rfl⟩
theorem rdn_len (l : List UInt8) : (rdn l).1.length ≤ 256 := by
  unfold rdn
  split
  · exact Nat.zero_le _
  · split
    · rename_i h
      simp only [valsN, List.length_map]
      exact h.1
    · exact Nat.zero_le _
theorem rdn_wf (l : List UInt8) : ∀ x ∈ (rdn l).1, (Lit.float .f32 x).wf = true := by
  unfold rdn
  split
  · intro x hx; cases hx
  · split
    · rename_i h
      intro x hx
      obtain ⟨p, hp, rfl⟩ := List.mem_map.1 (show x ∈ (Dec.cutL l).map rd from hx)
      have hk := List.all_eq_true.1 h.2 p hp
      have := rd_lt (okP_len hk)
      simpa [Lit.wf] using this
    · intro x hx; cases hx
theorem spReadNumbers (s : ByteArray) (hs : s.size ≤ 1048576) (w : World) : Calls Tryd.prog 15 #[.string s] w fun e w' => RetN s.data.toList w e w' := by
  have H := hid (l01NRead s hs w)
  go_enter Tryd.func15, Tryd.ntmps15
  go_wp2_with fail
  refine H.out.mono ?_
  rintro e w1 ⟨v, rfl, hp, hb⟩
  have HP := hid hp
  have HB := hid hb
  clear hp hb
  go_wp2_with fail
  go_ret2
  exact ⟨v, rfl, HP.out, HB.out⟩
set_option maxRecDepth 100000 in
set_option maxHeartbeats 1000000 in
theorem fnExactReadNumbers (a0 : ByteArray) (w : World) (w0 : a0.size ≤ maxLen) (he1 : ErrAt w "strconv.ErrSyntax") (he2 : ErrAt w "strconv.ErrRange") (htz : w.cell? ⟨6, 15, none⟩ = some (.int .u8 4)) (hS : w.ShapedOpen Tryd.prog) :
    Calls Tryd.prog 4 #[.string a0] w fun e w' => e = .returned (.bool true) ∧ Below w.heap.size w w' := by
  obtain ⟨mx, hmx⟩ : ∃ m, w.cell? ⟨4, 0, none⟩ = some (.int .i64 m) := Tryd.laysM146.s1_3 w hS
  have HTZ := hid htz
  have HTB := hid (block_lt htz)
  have HE1 := hid he1
  have HMX := hid hmx
  have HMXB := hid (block_lt hmx)
  clear htz he1 he2 hmx hS
  by_cases hbig : 1048576 < a0.size
  · go_enter Tryd.func4, Tryd.ntmps4
    go_wp2
    go_ret
    exact ⟨rfl, Below.refl _ _⟩
  · have hle : a0.size ≤ 1048576 := by omega
    have H15 := hid (fun w => spReadNumbers a0 hle w)
    have H11 : Hid (∀ w', Below w.heap.size w w' → Calls Tryd.prog 16 #[.string a0] w' fun e w'' => RetN a0.data.toList w' e w'') := hid (fun w' hb => imReadNumbers a0 hle w' mx ((hb.cell (p := ⟨4, 0, none⟩) HMXB.out).trans HMX.out) (HE1.out.on hb) ((hb.cell (p := ⟨6, 15, none⟩) HTB.out).trans HTZ.out))
    have hlen := rdn_len a0.data.toList
    have hwf := rdn_wf a0.data.toList
    unfold RetN at H15 H11
    obtain ⟨⟨zs, ok⟩, hr⟩ : ∃ r, rdn a0.data.toList = r := ⟨_, rfl⟩
    rw [hr] at hlen hwf
    have HWF := hid hwf
    simp only [hr] at H15 H11
    obtain ⟨m, hm⟩ : ∃ m, zs.length = m := ⟨_, rfl⟩
    have HM := hid hm
    have hml : m ≤ 256 := by rw [← hm]; exact hlen
    clear hr hlen hm hwf
    go_enter Tryd.func4, Tryd.ntmps4
    go_wp2_with fail
    refine (H15.out w).mono ?_
    rintro e w1 ⟨v1, rfl, hp1, b1⟩
    obtain ⟨a1, c1, hv1, -⟩ := id hp1
    rw [HM.out] at hv1
    subst hv1
    have S1 := hid hp1.slV.2
    have B1 := hid b1
    clear hp1 b1
    go_wp2_with fail
    refine (H11.out w1 B1.out).mono ?_
    rintro e w2 ⟨v2, rfl, hp2, b2⟩
    obtain ⟨a2, c2, hv2, -⟩ := id hp2
    rw [HM.out] at hv2
    subst hv2
    have P2 := hid hp2
    have B2 := hid b2
    clear hp2 b2
    go_wp2_with fail
    refine (eqF _ _ _ _ _ zs _ P2.out.slV.2 (S1.out.below B2.out) HWF.out (by omega)).mono ?_
    rintro e w' ⟨rfl, n1, rfl⟩
    go_wp2_with fail
    have P2' : PkF w1.heap.size (w2.drewN n1) (.slice a2 m c2) zs := P2.out
    refine (markN w1.heap.size a2 m c2 zs _ P2' (by omega)).mono ?_
    rintro e w3 ⟨rfl, hmk, b3⟩
    have MK := hid hmk
    have B3 : Hid (Below w1.heap.size w1 w3) := hid ((below_dr B2.out n1).trans b3)
    clear hmk b3 P2'
    go_wp2_with fail
    refine (heldN a2 m c2 _ MK.out (by omega)).mono ?_
    rintro e w4 ⟨rfl, rfl⟩
    go_wp2_with fail
    refine (H11.out w4 (below_to B1.out B3.out)).mono ?_
    rintro e w5 ⟨v5, rfl, hp5, b5⟩
    obtain ⟨a5, c5, hv5, -⟩ := id hp5
    rw [HM.out] at hv5
    subst hv5
    have S5 := hid hp5.slV.2
    have B5 := hid b5
    clear hp5 b5
    go_wp2_with fail
    refine (eqF _ _ _ _ _ zs _ S5.out ((S1.out.below B3.out).below B5.out) HWF.out (by omega)).mono ?_
    rintro e w' ⟨rfl, n2, rfl⟩
    have MK5 : MarkedF (w5.drewN n2) a2 m := MK.out.below (below_dr B5.out n2)
    go_wp2_with fail
    refine (heldN a2 m c2 _ MK5 (by omega)).mono ?_
    rintro e w6 ⟨rfl, rfl⟩
    clear MK5
    go_wp2_with fail
    go_ret
    exact ⟨rfl, below_dr (below_to (below_to B1.out B3.out) B5.out) _⟩
end Walk
end Go.Proofs.YtimablpgikebgaaDoor
