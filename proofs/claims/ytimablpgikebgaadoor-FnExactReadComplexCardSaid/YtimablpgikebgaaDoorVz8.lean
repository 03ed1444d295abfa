/- Complex numbers read: the law. No condition but what the row lists. -/
import Derived.Test.YtimablpgikebgaaDoorVz7
import Derived.Test.YtimablpgikebgaaDoorVz4
namespace Go.Proofs.YtimablpgikebgaaDoor
open Go.RowKit Sl Flo Iee
set_option linter.unusedVariables false
set_option linter.unusedSimpArgs false
namespace Walk
theorem rdz_len (l : List UInt8) : (rdz l).1.length ≤ 256 := by
  unfold rdz
  split
  · exact Nat.zero_le _
  · split
    · rename_i h
      simp only [valsZ, List.length_map]
      exact h.1
    · exact Nat.zero_le _
theorem rdz_wf (l : List UInt8) : ∀ x ∈ (rdz l).1, x.1 < 4294967296 ∧ x.2 < 4294967296 := by
  unfold rdz
  split
  · intro x hx; cases hx
  · split
    · rename_i h
      intro x hx
      obtain ⟨p, hp, rfl⟩ := List.mem_map.1 (show x ∈ (Dec.cutL l).map valC from hx)
      have hk := List.all_eq_true.1 h.2 p hp
      unfold okC at hk
      simp at hk
      exact ⟨rd_lt (okP_len hk.2.1), rd_lt (okP_len hk.2.2)⟩
    · intro x hx; cases hx
theorem spReadComplex (s : ByteArray) (hs : s.size ≤ 1048576) (w : World) : Calls Tryd.prog 20 #[.string s] w fun e w' => RetZ s.data.toList w e w' := by
  have H := hid (l01CRead s hs w)
  go_enter Tryd.func20, Tryd.ntmps20
  go_wp2_with fail
  refine H.out.mono ?_
  rintro e w1 ⟨v, rfl, hp, hb⟩
  have HP := hid hp
  have HB := hid hb
  clear hp hb
  go_wp2_with fail
  go_ret2
  exact ⟨v, rfl, HP.out, HB.out⟩
set_option maxRecDepth 100000 in
set_option maxHeartbeats 1000000 in
theorem fnExactReadComplex (a0 : ByteArray) (w : World) (w0 : a0.size ≤ maxLen) (he1 : ErrAt w "strconv.ErrSyntax") (he2 : ErrAt w "strconv.ErrRange") (htz : w.cell? ⟨6, 15, none⟩ = some (.int .u8 4)) (hS : w.ShapedOpen Tryd.prog) :
    Calls Tryd.prog 5 #[.string a0] w fun e w' => e = .returned (.bool true) ∧ Below w.heap.size w w' := by
  obtain ⟨mx, hmx⟩ : ∃ m, w.cell? ⟨4, 0, none⟩ = some (.int .i64 m) := Tryd.laysM146.s1_3 w hS
  have HTZ := hid htz
  have HTB := hid (block_lt htz)
  have HE1 := hid he1
  have HMX := hid hmx
  have HMXB := hid (block_lt hmx)
  clear htz he1 he2 hmx hS
  by_cases hbig : 1048576 < a0.size
  · go_enter Tryd.func5, Tryd.ntmps5
    go_wp2
    go_ret
    exact ⟨rfl, Below.refl _ _⟩
  · have hle : a0.size ≤ 1048576 := by omega
    have H15 := hid (fun w => spReadComplex a0 hle w)
    have H11 : Hid (∀ w', Below w.heap.size w w' → Calls Tryd.prog 21 #[.string a0] w' fun e w'' => RetZ a0.data.toList w' e w'') := hid (fun w' hb => imReadComplex a0 hle w' mx ((hb.cell (p := ⟨4, 0, none⟩) HMXB.out).trans HMX.out) (HE1.out.on hb) ((hb.cell (p := ⟨6, 15, none⟩) HTB.out).trans HTZ.out))
    have hlen := rdz_len a0.data.toList
    have hwf := rdz_wf a0.data.toList
    unfold RetZ at H15 H11
    obtain ⟨⟨zs, ok⟩, hr⟩ : ∃ r, rdz a0.data.toList = r := ⟨_, rfl⟩
    rw [hr] at hlen hwf
    have HWF := hid hwf
    simp only [hr] at H15 H11
    obtain ⟨m, hm⟩ : ∃ m, zs.length = m := ⟨_, rfl⟩
    have HM := hid hm
    have hml : m ≤ 256 := by rw [← hm]; exact hlen
    clear hr hlen hm hwf
    go_enter Tryd.func5, Tryd.ntmps5
    go_wp2_with fail
    refine (H15.out w).mono ?_
    rintro e w1 ⟨v1, rfl, hp1, b1⟩
    obtain ⟨a1, c1, hv1, -⟩ := id hp1
    rw [HM.out] at hv1
    subst hv1
    have S1 := hid hp1.slV.2
    have B1 := hid b1
    clear hp1 b1
    go_wp2_with fail
    refine (H11.out w1 B1.out).mono ?_
    rintro e w2 ⟨v2, rfl, hp2, b2⟩
    obtain ⟨a2, c2, hv2, -⟩ := id hp2
    rw [HM.out] at hv2
    subst hv2
    have P2 := hid hp2
    have B2 := hid b2
    clear hp2 b2
    go_wp2_with fail
    refine (eqZ _ _ _ _ _ zs _ P2.out.slV.2 (S1.out.below B2.out) HWF.out (by omega)).mono ?_
    rintro e w' ⟨rfl, n1, rfl⟩
    go_wp2_with fail
    have P2' : PkZ w1.heap.size (w2.drewN n1) (.slice a2 m c2) zs := P2.out
    refine (markZ w1.heap.size a2 m c2 zs _ P2' (by omega)).mono ?_
    rintro e w3 ⟨rfl, hmk, b3⟩
    have MK := hid hmk
    have B3 : Hid (Below w1.heap.size w1 w3) := hid ((below_dr B2.out n1).trans b3)
    clear hmk b3 P2'
    go_wp2_with fail
    refine (heldZ a2 m c2 _ MK.out (by omega)).mono ?_
    rintro e w4 ⟨rfl, rfl⟩
    go_wp2_with fail
    refine (H11.out w4 (below_to B1.out B3.out)).mono ?_
    rintro e w5 ⟨v5, rfl, hp5, b5⟩
    obtain ⟨a5, c5, hv5, -⟩ := id hp5
    rw [HM.out] at hv5
    subst hv5
    have S5 := hid hp5.slV.2
    have B5 := hid b5
    clear hp5 b5
    go_wp2_with fail
    refine (eqZ _ _ _ _ _ zs _ S5.out ((S1.out.below B3.out).below B5.out) HWF.out (by omega)).mono ?_
    rintro e w' ⟨rfl, n2, rfl⟩
    have MK5 : MarkedZ (w5.drewN n2) a2 m := MK.out.below (below_dr B5.out n2)
    go_wp2_with fail
    refine (heldZ a2 m c2 _ MK5 (by omega)).mono ?_
    rintro e w6 ⟨rfl, rfl⟩
    clear MK5
    go_wp2_with fail
    go_ret
    exact ⟨rfl, below_dr (below_to (below_to B1.out B3.out) B5.out) _⟩
end Walk
end Go.Proofs.YtimablpgikebgaaDoor
