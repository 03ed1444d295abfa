/- Games: two machines: when a pair of states comes again: the reference's side. No condition. -/
import Derived.Test.YtlbmmecjiopbbaaTw
import Derived.Test.YtlbmmecjiopbbaaPm
import Derived.Test.YtlbmmecjiopbbaaWp4
namespace Go.Proofs.Ytlbmmecjiopbbaa
open Go.RowKit Flo Sl Pg
set_option linter.unusedVariables false
set_option linter.unusedSimpArgs false
namespace TryWalk
def lenV : Value → Nat
  | .slice _ n _ => n
  | _ => 0
/-- The first n pairs of states, each as one number. -/
def Pl.codes (P : Pl) (n : Nat) : List Int := (List.range n).map (fun m => ((Pm.code (P.st m) : Nat) : Int))
theorem Pl.codes_succ (P : Pl) (n : Nat) : P.codes (n + 1) = P.codes n ++ [((Pm.code (P.st n) : Nat) : Int)] := by simp [Pl.codes, List.range_succ]
theorem Pl.codes_get (P : Pl) {n i : Nat} (h : i < n) : (P.codes n).getD i 0 = ((Pm.code (P.st i) : Nat) : Int) := by
  rw [Pl.codes, List.getD_eq_getElem?_getD, List.getElem?_map, List.getElem?_range h]; rfl
theorem Pl.Ok.st8 {P : Pl} (h : P.Ok) (n : Nat) : (P.st n).1 < 8 ∧ (P.st n).2 < 8 := by
  have := h.st_lt n
  have := h.a2
  have := h.b2
  omega
/-- Two machines over a game's sides, in memory. -/
structure Mem (P : Pl) (va vb : Value) (m1 : Option Addr) (k1 : Nat) (m2 : Option Addr) (k2 : Nat) (m3 : Option Addr) (k3 : Nat) (m4 : Option Addr) (k4 : Nat) (n2 n4 kg ka kb : Nat) (w : World) : Prop where
  g : Box w kg [.int .i64 P.rn, .int .i64 P.cn, va, vb]
  a : Box w ka [.slice m1 P.na k1, .slice m2 n2 k2]
  b : Box w kb [.slice m3 P.nb k3, .slice m4 n4 k4]
  h1 : SlV (Value.int .i64) w m1 P.na P.am
  h2 : SlV (Value.int .i64) w m2 n2 P.an
  h3 : SlV (Value.int .i64) w m3 P.nb P.bm
  h4 : SlV (Value.int .i64) w m4 n4 P.bn
theorem Mem.below {P : Pl} {va vb : Value} {m1 : Option Addr} {k1 : Nat} {m2 : Option Addr} {k2 : Nat} {m3 : Option Addr} {k3 : Nat} {m4 : Option Addr} {k4 : Nat} {n2 n4 kg ka kb : Nat} {w w' : World} (h : Mem P va vb m1 k1 m2 k2 m3 k3 m4 k4 n2 n4 kg ka kb w) (hb : Below w.heap.size w w') : Mem P va vb m1 k1 m2 k2 m3 k3 m4 k4 n2 n4 kg ka kb w' :=
  ⟨h.g.below hb, h.a.below hb, h.b.below hb, h.h1.below hb, h.h2.below hb, h.h3.below hb, h.h4.below hb⟩
set_option maxRecDepth 100000 in
set_option maxHeartbeats 8000000 in
theorem spRound (P : Pl) (hP : P.Ok) (i0 n0 : Nat) (hR : Pm.Rep P.st i0 n0) (h64 : n0 ≤ 64) (va vb : Value) (m1 : Option Addr) (k1 : Nat) (m2 : Option Addr) (k2 : Nat) (m3 : Option Addr) (k3 : Nat) (m4 : Option Addr) (k4 : Nat) (n2 n4 kg ka kb : Nat) (hn2 : n2 = P.na * P.cn) (hn4 : n4 = P.nb * P.rn) (w : World)
    (hM : Mem P va vb m1 k1 m2 k2 m3 k3 m4 k4 n2 n4 kg ka kb w) :
    Calls Try.prog 110 #[.pointer (some ⟨kg, 0, none⟩), .pointer (some ⟨ka, 0, none⟩), .pointer (some ⟨kb, 0, none⟩)] w fun e w' => ∃ v, e = .returned (.tuple #[.int .i64 i0, .int .i64 ((n0 - i0 : Nat) : Int), v]) ∧ w'.ownsRow w.heap.size 2 1 v n0 ((P.cells n0).map (Value.int .i64)) ∧ Below w.heap.size w w' := by
  have HM := hid hM
  have HZ2 := hid hn2
  have HZ4 := hid hn4
  have HR := hid hR
  have HP := hid hP
  clear hM hn2 hn4 hR hP
  go_enter Try.func110, Try.ntmps110
  go_wp2_with fail
  go_loopw [9, 10, 11, 12, 13, 14, 15, 16, 17] (fun v1 v2 x y x1 x2 x3 x4 x5 wr => ∃ n : Nat, n ≤ n0 ∧ x = .int .i64 (P.st n).1 ∧ y = .int .i64 (P.st n).2 ∧ Twin wr w.heap.size v1 n (P.codes n) v2 n (P.cells n) ∧ Below w.heap.size w wr) (fun v1 _ _ _ _ _ _ _ _ _ => n0 + 1 - lenV v1)
  case atStart =>
    refine ⟨0, Nat.zero_le _, rfl, rfl, ?_, ?_⟩
    · have := twin_made (B := w.heap.size) (v1 := .slice (some ⟨w.heap.size, 0, none⟩) 0 0) (n1 := 0) (xs1 := []) (World.ownsRow_made (size := 1) (e := 2) w #[] 0 (Nat.le_refl _) (by unfold maxLen; omega) rfl) #[] 0 (by simp) (by unfold maxLen; omega) rfl 0 [] (Nat.le_refl _) rfl
      simpa [Pl.codes, Pl.cells] using this
    · exact ((Below.refl _ _).alloc (Nat.le_refl _) _).alloc (by simp) _
  case round =>
    obtain ⟨n, hn, rfl, rfl, htw, hbel⟩ := hrel
    obtain ⟨a1, cap1, hv1, hcap1, hob1⟩ := OwB.of_row htw.r1
    obtain ⟨a2, cap2, hv2, hcap2, hob2⟩ := OwB.of_row htw.r2
    subst hv1
    subst hv2
    have HTW := hid htw
    have HBEL := hid hbel
    have HOB := hid hob1
    obtain ⟨p8, r8⟩ := HP.out.st8 n
    obtain ⟨pna, pnb⟩ := HP.out.st_lt n
    have HCS := hid (P.codes_succ n)
    have HCC : Hid (P.cells (n + 1) = P.cells n ++ [((P.cell ((P.st n).1, (P.st n).2) : Nat) : Int)]) := hid (P.cells_succ n)
    have HN : Hid (P.st (n + 1) = P.nxt ((P.st n).1, (P.st n).2)) := hid rfl
    have HCD : Hid (Pm.code (P.st n) = (P.st n).1 * 8 + (P.st n).2) := hid rfl
    have HST : Hid (∀ i, i < n → P.st i = P.st n → i = i0 ∧ n = n0) := hid (fun i hi he => Pm.Rep.uniq ⟨hi, he, fun j k h1 h2 => HR.out.first j k h1 (by omega)⟩ HR.out)
    have HEND : Hid (n = n0 → ∃ i, i < n ∧ P.st i = P.st n) := hid (fun e => ⟨i0, by rw [e]; exact HR.out.lt, by rw [e]; exact HR.out.eq⟩)
    have HCI : Hid (∀ i, (Pm.code (P.st i) = Pm.code (P.st n)) → P.st i = P.st n) := hid (fun i he => Pm.code_inj (HP.out.st8 i).2 (HP.out.st8 n).2 he)
    clear htw hbel hob1 hob2 hcap1 hcap2
    obtain ⟨x, hx⟩ : ∃ x, (P.st n).1 = x := ⟨_, rfl⟩
    obtain ⟨y, hy⟩ : ∃ y, (P.st n).2 = y := ⟨_, rfl⟩
    rw [hx] at p8 pna HCC HN HCD ⊢
    rw [hy] at r8 pnb HCC HN HCD ⊢
    clear hx hy
    obtain ⟨x8, hx8⟩ : ∃ x8, x * 8 = x8 := ⟨_, rfl⟩
    obtain ⟨cd, hcd⟩ : ∃ cd, x8 + y = cd := ⟨_, rfl⟩
    have e1 : (x : Int) * 8 = (x8 : Int) := by omega
    have e2 : (x8 : Int) + (y : Int) = (cd : Int) := by omega
    have t1 : IntKind.i64.wrap (x8 : Int) = (x8 : Int) := IntWalk.i64_in _ (by omega)
    have t2 : IntKind.i64.wrap (cd : Int) = (cd : Int) := IntWalk.i64_in _ (by omega)
    have HCD2 : Hid (Pm.code (P.st n) = cd) := hid (by rw [HCD.out, hx8, hcd])
    rw [HCD2.out] at HCS HCI
    clear HCD hx8 hcd
    go_wp2_with fail
    go_loopw [14] (fun t w2 => ∃ i : Nat, i ≤ n ∧ t = .int .i64 i ∧ Hid (∀ j, j < i → P.st j ≠ P.st n) ∧ w2 = wr) (fun t _ => n - (intOf t).toNat)
    case atStart => exact ⟨0, Nat.zero_le _, rfl, hid (fun j hj => absurd hj (Nat.not_lt_zero _)), rfl⟩
    case round =>
      obtain ⟨i, hi, rfl, HNE, rfl⟩ := hrel
      by_cases hin : i < n
      · obtain ⟨g1, rfl, -, -, -, hc1⟩ := HOB.out.2 (by omega)
        have c1 := (hc1 i hin).1
        rw [P.codes_get hin] at c1
        clear hc1
        obtain ⟨ci, hci⟩ : ∃ ci, Pm.code (P.st i) = ci := ⟨_, rfl⟩
        have HCI2 := hid (HCI.out i)
        rw [hci] at c1 HCI2
        have HC3 := hid hci
        clear hci
        have i1 : (0 : Int) ≤ (i : Int) := by omega
        have i2 : (i : Int) < (n : Int) := by omega
        by_cases hce : ci = cd
        · have hb : ((ci : Int) == (cd : Int)) = true := by simp; omega
          obtain ⟨rfl, rfl⟩ := HST.out i hin (HCI2.out hce)
          have e5 : (n : Int) - (i : Int) = ((n - i : Nat) : Int) := by omega
          obtain ⟨z, hz⟩ : ∃ z, n - i = z := ⟨_, rfl⟩
          rw [hz] at e5
          have HZZ := hid hz
          have t5 : IntKind.i64.wrap (z : Int) = (z : Int) := IntWalk.i64_in _ (by omega)
          clear hce hz
          go_wp2_with fail
          go_ret3
          refine ⟨.slice a2 n cap2, ?_, HTW.out.r2, HBEL.out⟩
          rw [HZZ.out]; rfl
        · have hb : ((ci : Int) == (cd : Int)) = false := by simp; omega
          have HNE2 : Hid (∀ j, j < i + 1 → P.st j ≠ P.st n) := hid (fun j hj => by
            rcases Nat.lt_or_eq_of_le (Nat.le_of_lt_succ hj) with h1 | rfl
            · exact HNE.out j h1
            · intro e; exact hce (by rw [← HC3.out, e]; exact HCD2.out))
          clear hce
          go_wp2_with fail
          go_roundw
          case rel => exact ⟨i + 1, by omega, by go_num, HNE2, by first | rfl | trivial⟩
          case measure => simp [intOf]; omega
      · obtain rfl : i = n := by omega
        have hlt : i < n0 := by
          rcases Nat.lt_or_eq_of_le hn with h1 | h1
          · exact h1
          · obtain ⟨j, hj, he⟩ := HEND.out h1
            exact absurd he (HNE.out j hj)
        go_wp2_with (first
          | (at_builtin; refine wpList_appT1 rfl (.tmp 42) (.tmp 44) rfl w.heap.size HBEL.out.size _ i _ _ i _ cd rfl HTW.out (by omega) rfl ?_; intro v1' w3 ht3 hb3; have HT3 := hid ht3; have HB3 := hid (HBEL.out.trans hb3); clear ht3 hb3)
          | (go_at_call 118; refine (spStep P HP.out x y pna pnb n2 n4 HZ2.out HZ4.out va vb m1 k1 m2 k2 m3 k3 m4 k4 kg ka kb _ (HM.out.below HB3.out).g (HM.out.below HB3.out).a (HM.out.below HB3.out).b (HM.out.below HB3.out).h1 (HM.out.below HB3.out).h2 (HM.out.below HB3.out).h3 (HM.out.below HB3.out).h4).mono ?_; rintro e w4 ⟨rfl, n5, hw4⟩; have HB4 : Hid (Below w.heap.size w w4) := hid (by rw [hw4]; exact below_drewN HB3.out n5); have HT4 := hid (HT3.out.below (show Below w3.heap.size w3 w4 from by rw [hw4]; exact below_drewN (Below.refl _ _) n5)); clear hw4)
          | (at_builtin; refine wpList_appT2 rfl (.tmp 56) (.tmp 58) rfl w.heap.size HB4.out.size _ (i + 1) _ _ i _ _ rfl HT4.out (by omega) rfl ?_; intro v2' w5 ht5 hb5; have HT5 := hid ht5; have HB5 := hid (HB4.out.trans hb5); clear ht5 hb5))
        have hlen : lenV v1' = i + 1 := by
          obtain ⟨a1, cap1, hv1, -⟩ := OwB.of_row HT5.out.r1
          rw [hv1]; rfl
        have HLN := hid hlen
        clear hlen
        go_roundw
        case rel => exact ⟨i + 1, hlt, by rw [HN.out], by rw [HN.out], by rw [HCS.out, HCC.out]; exact HT5.out, HB5.out⟩
        case measure => rw [HLN.out]; simp [lenV]; omega
end TryWalk
end Go.Proofs.Ytlbmmecjiopbbaa
