/- Games: two machines play: the program's side. No condition. -/
import Derived.Test.YtlbmmecjiopbbaaWp3
namespace Go.Proofs.Ytlbmmecjiopbbaa
open Go.RowKit Flo Sl Pg
set_option linter.unusedVariables false
set_option linter.unusedSimpArgs false
namespace TryWalk
theorem Box.belowB {B : Nat} {w w' : World} {k : Nat} {vs : List Value} (h : Box w k vs) (b : Below B w w') (hk : k < B) : Box w' k vs :=
  ⟨Nat.lt_of_lt_of_le h.1 b.size, fun i v hv => ⟨(b.cell (p := ⟨k, i, none⟩) hk).trans (h.2 i v hv).1, (b.frozen (p := ⟨k, i, none⟩) hk).trans (h.2 i v hv).2⟩⟩
set_option maxRecDepth 100000 in
set_option maxHeartbeats 8000000 in
theorem imPlay (r c : Int) (a : Option Addr) (la ca : Nat) (xs : List Int) (b : Option Addr) (lb cb : Nat) (ys : List Int) (m1 : Option Addr) (n1 k1 : Nat) (am : List Int) (m2 : Option Addr) (n2 k2 : Nat) (an : List Int) (m3 : Option Addr) (n3 k3 : Nat) (bm : List Int) (m4 : Option Addr) (n4 k4 : Nat) (bn : List Int) (k : Int) (w : World)
    (hA : SlV (Value.int .i64) w a la xs) (hB : SlV (Value.int .i64) w b lb ys) (h1 : SlV (Value.int .i64) w m1 n1 am) (h2 : SlV (Value.int .i64) w m2 n2 an) (h3 : SlV (Value.int .i64) w m3 n3 bm) (h4 : SlV (Value.int .i64) w m4 n4 bn)
    (hla : la ≤ 1048576) (hlb : lb ≤ 1048576) (l1 : n1 ≤ 1048576) (l2 : n2 ≤ 1048576) (l3 : n3 ≤ 1048576) (l4 : n4 ≤ 1048576) : Calls Try.prog 72 #[.agg #[.int .i64 r, .int .i64 c, .slice a la ca, .slice b lb cb], .agg #[.slice m1 n1 k1, .slice m2 n2 k2], .agg #[.slice m3 n3 k3, .slice m4 n4 k4], .int .i64 k] w (RetL (playF r c xs ys am an bm bn k) (playF r c xs ys am an bm bn k).length (playD r c xs ys am an bm bn k) w) := by
  obtain ⟨W3, hW3⟩ : ∃ W3, ((w.alloc (.cells #[.int .i64 r, .int .i64 c, .slice a la ca, .slice b lb cb] 44)).alloc (.cells #[.slice m1 n1 k1, .slice m2 n2 k2] 36)).alloc (.cells #[.slice m3 n3 k3, .slice m4 n4 k4] 36) = W3 := ⟨_, rfl⟩
  have x0 : Box W3 w.heap.size [.int .i64 r, .int .i64 c, .slice a la ca, .slice b lb cb] := by rw [← hW3]; exact ((Box.new w [.int .i64 r, .int .i64 c, .slice a la ca, .slice b lb cb] 44).al _).al _
  have x1 : Box W3 (w.heap.size + 1) [.slice m1 n1 k1, .slice m2 n2 k2] := by rw [← hW3]; have := (Box.new (w.alloc (.cells #[.int .i64 r, .int .i64 c, .slice a la ca, .slice b lb cb] 44)) [.slice m1 n1 k1, .slice m2 n2 k2] 36).al (.cells #[.slice m3 n3 k3, .slice m4 n4 k4] 36); simpa using this
  have x2 : Box W3 (w.heap.size + 1 + 1) [.slice m3 n3 k3, .slice m4 n4 k4] := by rw [← hW3]; have := Box.new ((w.alloc (.cells #[.int .i64 r, .int .i64 c, .slice a la ca, .slice b lb cb] 44)).alloc (.cells #[.slice m1 n1 k1, .slice m2 n2 k2] 36)) [.slice m3 n3 k3, .slice m4 n4 k4] 36; simpa using this
  have hb0 : Below w.heap.size w W3 := by rw [← hW3]; repeat (first | exact Below.refl _ _ | refine Below.alloc ?_ (by simp <;> omega) _)
  have HT := hid (paired r c a la ca xs b lb cb ys m1 n1 k1 am m2 n2 k2 an m3 n3 k3 bm m4 n4 k4 bn W3 (hA.below hb0) (hB.below hb0) (h1.below hb0) (h2.below hb0) (h3.below hb0) (h4.below hb0) hla hlb l1 l2 l3 l4)
  have HW3 := hid hW3
  have HB0 := hid hb0
  have HIN := hid (fun w' => within k 0 1000 w')
  cases hv : twoB r c xs ys am an bm bn with
  | false =>
    have e1 : playF r c xs ys am an bm bn k = [] := by rw [playF, hv]; rfl
    have e2 : playD r c xs ys am an bm bn k = false := by rw [playD, hv]; rfl
    rw [e1, e2]
    rw [hv] at HT
    clear hW3 x0 x1 x2 hb0 hA hB h1 h2 h3 h4 e1 e2 hv
    go_enter Try.func72, Try.ntmps72
    go_wp2_with fail
    rw [HW3.out]
    refine HT.out.mono ?_
    rintro e w4 ⟨rfl, hb4⟩
    have HB4 := hid hb4
    clear hb4
    rw [pairV]
    go_wp2_with fail
    go_ret2
    exact retL_none _ _ ((below_to HB0.out HB4.out).trans (Below.alloc (Below.refl _ _) (Nat.le_trans HB0.out.size HB4.out.size) _))
  | true =>
    rw [hv] at HT
    cases hk : inB 0 1000 k with
    | false =>
      have e1 : playF r c xs ys am an bm bn k = [] := by rw [playF, hv, hk]; rfl
      have e2 : playD r c xs ys am an bm bn k = false := by rw [playD, hv, hk]; rfl
      rw [e1, e2]
      rw [hk] at HIN
      clear hW3 x0 x1 x2 hb0 hA hB h1 h2 h3 h4 e1 e2 hv hk
      go_enter Try.func72, Try.ntmps72
      go_wp2_with fail
      rw [HW3.out]
      refine HT.out.mono ?_
      rintro e w4 ⟨rfl, hb4⟩
      have HB4 := hid hb4
      clear hb4
      rw [pairV]
      go_wp2_with (go_at_call 117; refine (HIN.out _).mono ?_; rintro e w' ⟨rfl, rfl⟩)
      go_ret2
      exact retL_none _ _ ((below_to HB0.out HB4.out).trans (Below.alloc (Below.refl _ _) (Nat.le_trans HB0.out.size HB4.out.size) _))
    | true =>
      obtain ⟨rn, cn, rfl, rfl, -, -, hP⟩ := two_ok hv
      obtain ⟨kn, rfl, hkn⟩ : ∃ kn : Nat, k = kn ∧ kn ≤ 1000 := by
        unfold inB at hk
        simp only [decide_eq_true_eq] at hk
        exact ⟨k.toNat, by omega, by omega⟩
      have e1 : playF rn cn xs ys am an bm bn kn = (Pl.mk am an bm bn rn cn am.length bm.length).cells kn := by rw [playF, hv, hk]; rfl
      have e2 : playD rn cn xs ys am an bm bn kn = true := by rw [playD, hv, hk]; rfl
      rw [e1, e2]
      rw [hk] at HIN
      obtain ⟨P, hPP⟩ : ∃ P, Pl.mk am an bm bn rn cn am.length bm.length = P := ⟨_, rfl⟩
      have y1 : am = P.am := by rw [← hPP]
      have y2 : an = P.an := by rw [← hPP]
      have y3 : bm = P.bm := by rw [← hPP]
      have y4 : bn = P.bn := by rw [← hPP]
      have y5 : rn = P.rn := by rw [← hPP]
      have y6 : cn = P.cn := by rw [← hPP]
      have y7 : n1 = P.na := by rw [← hPP]; exact h1.1.symm
      have y8 : n3 = P.nb := by rw [← hPP]; exact h3.1.symm
      rw [hPP] at hP
      rw [hPP]
      have z2 : n2 = P.na * P.cn := by rw [← h2.1, y2]; exact hP.lan
      have z4 : n4 = P.nb * P.rn := by rw [← h4.1, y4]; exact hP.lbn
      have HZ2 := hid z2
      have HZ4 := hid z4
      have hh1 := h1.below hb0
      have hh2 := h2.below hb0
      have hh3 := h3.below hb0
      have hh4 := h4.below hb0
      clear hW3 hb0 hA hB h1 h2 h3 h4 e1 e2 hv hk hPP z2 z4
      subst y7 y8
      rw [y1] at hh1
      rw [y2] at hh2
      rw [y3] at hh3
      rw [y4] at hh4
      clear x0 x1 x2
      have HS1 := hid hh1
      have HS2 := hid hh2
      have HS3 := hid hh3
      have HS4 := hid hh4
      clear hh1 hh2 hh3 hh4 y1 y2 y3 y4
      have hlen := P.cells_len kn
      rw [hlen]
      clear hlen
      have HY5 := hid y5
      have HY6 := hid y6
      clear y5 y6
      go_enter Try.func72, Try.ntmps72
      go_wp2_with fail
      rw [HW3.out]
      refine HT.out.mono ?_
      rintro e w4 ⟨rfl, hb4⟩
      rw [pairV]
      obtain ⟨W5, hW5⟩ : ∃ W5, w4.alloc (.cells #[.int .i64 rn, .int .i64 cn, .slice a la ca, .slice b lb cb, .slice m1 P.na k1, .slice m2 n2 k2, .slice m3 P.nb k3, .slice m4 n4 k4, .int .i64 0, .int .i64 0] 113) = W5 := ⟨_, rfl⟩
      have x5 : Box W5 w4.heap.size [.int .i64 P.rn, .int .i64 P.cn, .slice a la ca, .slice b lb cb, .slice m1 P.na k1, .slice m2 n2 k2, .slice m3 P.nb k3, .slice m4 n4 k4, .int .i64 (P.st 0).1, .int .i64 (P.st 0).2] := by
        rw [← hW5, ← HY5.out, ← HY6.out]
        exact Box.new w4 [.int .i64 rn, .int .i64 cn, .slice a la ca, .slice b lb cb, .slice m1 P.na k1, .slice m2 n2 k2, .slice m3 P.nb k3, .slice m4 n4 k4, .int .i64 0, .int .i64 0] 113
      have b5 : Below W3.heap.size W3 W5 := by rw [← hW5]; exact hb4.trans (Below.alloc (Below.refl _ _) hb4.size _)
      have s5 : W5.heap.size = w4.heap.size + 1 := by rw [← hW5]; simp
      have HS34 := hid hb4.size
      have HX5 := hid x5
      have HB5 := hid b5
      have HW5 := hid hW5
      have HSZ5 := hid s5
      clear x5 b5 hW5 s5 hb4
      go_wp2_with (go_at_call 117; rw [HW5.out]; refine (HIN.out _).mono ?_; rintro e wq ⟨rfl, rfl⟩)
      clear HW5
      go_loopw [12, 29] (fun v i wr => ∃ j : Nat, j ≤ kn ∧ i = .int .i64 j ∧ wr.ownsRow wq.heap.size 2 1 v j ((P.cells j).map (Value.int .i64)) ∧ Box wr w4.heap.size [.int .i64 P.rn, .int .i64 P.cn, .slice a la ca, .slice b lb cb, .slice m1 P.na k1, .slice m2 n2 k2, .slice m3 P.nb k3, .slice m4 n4 k4, .int .i64 (P.st j).1, .int .i64 (P.st j).2] ∧ Below W3.heap.size W3 wr ∧ wq.heap.size ≤ wr.heap.size) (fun _ i _ => kn - (intOf i).toNat)
      case atStart =>
        refine ⟨0, Nat.zero_le _, rfl, ?_, HX5.out.al _, HB5.out.trans (Below.alloc (Below.refl _ _) HB5.out.size _), by simp⟩
        exact World.ownsRow_made (size := 1) (e := 2) wq #[] 0 (Nat.le_refl _) (by unfold maxLen; omega) rfl
      case round =>
        obtain ⟨j, hj, rfl, hown, hbox, hbel, hsz⟩ := hrel
        have HOWN := hid hown
        have HBOX := hid hbox
        have HBEL := hid hbel
        have HSZ := hid hsz
        clear hown hbox hbel hsz
        by_cases hlt : j < kn
        · obtain ⟨s1, s2⟩ := hP.st_lt j
          have hst := play P hP (P.st j).1 (P.st j).2 s1 s2 n2 n4 HZ2.out HZ4.out _ _ m1 k1 m2 k2 m3 k3 m4 k4 _ wr HBOX.out (HS1.out.below HBEL.out) (HS2.out.below HBEL.out) (HS3.out.below HBEL.out) (HS4.out.below HBEL.out)
          have HST := hid hst
          have HN : Hid (P.st (j + 1) = P.nxt ((P.st j).1, (P.st j).2)) := hid rfl
          have HC : Hid (P.cells (j + 1) = P.cells j ++ [((P.cell ((P.st j).1, (P.st j).2) : Nat) : Int)]) := hid (P.cells_succ j)
          clear hst s1 s2 HBOX
          obtain ⟨cc, hcc⟩ : ∃ cc, P.cell ((P.st j).1, (P.st j).2) = cc := ⟨_, rfl⟩
          obtain ⟨nn, hnn⟩ : ∃ nn, P.nxt ((P.st j).1, (P.st j).2) = nn := ⟨_, rfl⟩
          rw [hcc, hnn] at HST
          rw [hnn] at HN
          rw [hcc] at HC
          clear hcc hnn
          go_wp2_with (first
            | (go_at_call 112; refine HST.out.mono ?_; rintro e w5 ⟨rfl, hm5, hx5⟩; have HOWN3 := hid (row_mid HOWN.out hm5 (by have := HSZ5.out; omega)); have HBL3 := hid (HBEL.out.trans (hm5.below HS34.out HBEL.out.size)); have HSZ3 := hid (Nat.le_trans HSZ.out hm5.size); have HX3 := hid hx5; clear hm5 hx5)
            | (at_builtin; refine wpList_appB rfl (.tmp 31) (.tmp 33) rfl wq.heap.size HSZ3.out _ j (P.cells j) (cc : Int) rfl HOWN3.out (by omega) rfl ?_; intro v2 w6 hown1 hb1; have HO1 := hid hown1; have HX1 := hid (HX3.out.belowB hb1 (by have := HSZ5.out; omega)); have HB1 := hid (HBL3.out.trans (hb1.mono (by have := HSZ5.out; have := HS34.out; omega))); have HSZ1 := hid (Nat.le_trans HSZ3.out hb1.size); clear hown1 hb1))
          go_roundw
          case rel => exact ⟨j + 1, by omega, by go_num, by rw [HC.out]; exact HO1.out, by rw [HN.out]; exact HX1.out, HB1.out, HSZ1.out⟩
          case measure => simp [intOf]; omega
        · obtain rfl : j = kn := by omega
          obtain ⟨a', cap', hv, hcap, hob⟩ := OwB.of_row HOWN.out
          subst hv
          have HOB := hid hob
          clear hob hcap
          go_wp2_with fail
          go_ret2
          exact ⟨a', cap', rfl, HOB.out.mono (by have := HSZ5.out; have := HS34.out; have := HB0.out.size; omega) (Nat.le_refl _), below_to HB0.out HBEL.out⟩
theorem playF_len (r c : Int) (xs ys am an bm bn : List Int) (k : Int) : (playF r c xs ys am an bm bn k).length ≤ 1048576 := by
  unfold playF
  split
  · rename_i h
    simp only [Bool.and_eq_true, inB, decide_eq_true_eq] at h
    rw [Pl.cells_len]
    omega
  · simp
theorem bothPlay (r c : Int) (hr : (Lit.int .i64 r).wf = true) (hc : (Lit.int .i64 c).wf = true) (la : Nat) (xs : List Int) (hla : la ≤ 1048576) (hx : ∀ n ∈ xs, (Lit.int .i64 n).wf = true) (lb : Nat) (ys : List Int) (hlb : lb ≤ 1048576) (hy : ∀ n ∈ ys, (Lit.int .i64 n).wf = true)
    (n1 : Nat) (am : List Int) (l1 : n1 ≤ 1048576) (w1 : ∀ n ∈ am, (Lit.int .i64 n).wf = true) (n2 : Nat) (an : List Int) (l2 : n2 ≤ 1048576) (w2 : ∀ n ∈ an, (Lit.int .i64 n).wf = true)
    (n3 : Nat) (bm : List Int) (l3 : n3 ≤ 1048576) (w3 : ∀ n ∈ bm, (Lit.int .i64 n).wf = true) (n4 : Nat) (bn : List Int) (l4 : n4 ≤ 1048576) (w4 : ∀ n ∈ bn, (Lit.int .i64 n).wf = true) (k : Int) (hk : (Lit.int .i64 k).wf = true) :
    ∃ F n D, n ≤ 1048576 ∧ ∀ a ca b cb m1 k1 m2 k2 m3 k3 m4 k4 w, SlV (Value.int .i64) w a la xs → SlV (Value.int .i64) w b lb ys → SlV (Value.int .i64) w m1 n1 am → SlV (Value.int .i64) w m2 n2 an → SlV (Value.int .i64) w m3 n3 bm → SlV (Value.int .i64) w m4 n4 bn →
      Calls Try.prog 71 #[.agg #[.int .i64 r, .int .i64 c, .slice a la ca, .slice b lb cb], .agg #[.slice m1 n1 k1, .slice m2 n2 k2], .agg #[.slice m3 n3 k3, .slice m4 n4 k4], .int .i64 k] w (RetL F n D w) ∧ Calls Try.prog 72 #[.agg #[.int .i64 r, .int .i64 c, .slice a la ca, .slice b lb cb], .agg #[.slice m1 n1 k1, .slice m2 n2 k2], .agg #[.slice m3 n3 k3, .slice m4 n4 k4], .int .i64 k] w (RetL F n D w) :=
  ⟨_, _, _, playF_len r c xs ys am an bm bn k, fun a ca b cb m1 k1 m2 k2 m3 k3 m4 k4 w hA hB h1 h2 h3 h4 => ⟨spPlay r c a la ca xs b lb cb ys m1 n1 k1 am m2 n2 k2 an m3 n3 k3 bm m4 n4 k4 bn k w hA hB h1 h2 h3 h4 hla hlb l1 l2 l3 l4, imPlay r c a la ca xs b lb cb ys m1 n1 k1 am m2 n2 k2 an m3 n3 k3 bm m4 n4 k4 bn k w hA hB h1 h2 h3 h4 hla hlb l1 l2 l3 l4⟩⟩
end TryWalk
end Go.Proofs.Ytlbmmecjiopbbaa
