/- Games: two machines play: both sides. No condition. -/
import Derived.Test.YtlbmmecjiopbbaaWp2
namespace Go.Proofs.Ytlbmmecjiopbbaa
open Go.RowKit Flo Sl Pg
set_option linter.unusedVariables false
namespace TryWalk
theorem two_ok {r c : Int} {xs ys am an bm bn : List Int} (h : twoB r c xs ys am an bm bn = true) : ∃ rn cn : Nat, r = rn ∧ c = cn ∧ xs.length = rn * cn ∧ ys.length = rn * cn ∧ Pl.Ok ⟨am, an, bm, bn, rn, cn, am.length, bm.length⟩ := by
  unfold twoB at h
  simp only [Bool.and_eq_true] at h
  obtain ⟨⟨h0, h1⟩, h2⟩ := h
  obtain ⟨rn, cn, rfl, rfl, hr1, hr2, hc1, hc2, h5, h7, -⟩ := validG_parts h0
  unfold validP inB at h1 h2
  simp only [Bool.and_eq_true, decide_eq_true_eq, List.all_eq_true] at h1 h2
  obtain ⟨⟨⟨⟨⟨p1, p2⟩, p3⟩, p4⟩, p5⟩, p6⟩ := h1
  obtain ⟨⟨⟨⟨⟨q1, q2⟩, q3⟩, q4⟩, q5⟩, q6⟩ := h2
  refine ⟨rn, cn, rfl, rfl, h5, h7, ⟨hr1, hr2, hc1, hc2, by simp only; omega, by simp only; omega, by simp only; omega, by simp only; omega, rfl, by exact_mod_cast p4, rfl, by exact_mod_cast q4, p5, p6, q5, q6⟩⟩
/-- 'out = append(out, j)' beside other memory of the call's own. -/
theorem wpList_appB {wq : World} {ops : Array Oper} {rest : List Oper} {o : Oper} {a : Act} {Q : Exit → Act → World → Prop} (hgd : o.guard = none) (s x : Operand)
    (ho : o.op = .call { callee := .builtin .append, args := #[s, x], argTypes := #[22, 22] }) (B : Nat) (hB : B ≤ wq.heap.size) (v : Value) (n : Nat) (xs : List Int) (j : Int) (hs : a.eval s = v)
    (hown : wq.ownsRow B 2 1 v n (xs.map (Value.int .i64))) (hn : n ≤ 1000000) (hx : a.eval x = .slice (some ⟨wq.heap.size, 0, none⟩) 1 1)
    (h : ∀ v' w1, w1.ownsRow B 2 1 v' (n + 1) ((xs ++ [j]).map (Value.int .i64)) → Below B wq w1 → wpList Try.prog ops Q rest (a.put o.dst v') w1) : wpList Try.prog ops Q (o :: rest) a (wq.alloc (.cells #[.int .i64 j] 2)) := by
  obtain ⟨i0, hi, hz0, hz1, hz2⟩ := info_parts infoI
  refine wpList_append_own _ hgd s x 22 ho B 2 i0 (.int .i64 0) 1 8 Try.underlying22 hi hz0 hz1 hz2 rfl (by decide) v n _ hs (hown.alloc _) ⟨wq.heap.size, 0, none⟩ 1 1 [.int .i64 j] hx rfl (new_cell _ _) (one_int _) (by unfold maxLen; omega) (by omega) (by simp; omega) ?_
  intro v' w1 hown1 hgrow _
  exact h v' w1 (by simpa using hown1) (((Below.refl B wq).alloc hB _).grown hgrow (by simp; omega) (fun q hq => (hown.lt q hq).1))
theorem row_mid {B k : Nat} {w w' : World} {v : Value} {n : Nat} {xs : List Value} (h : w.ownsRow B 2 1 v n xs) (m : Mid k (k + 1) w w') (hk : k < B) : w'.ownsRow B 2 1 v n xs := by
  refine h.kept (row := some k) ⟨m.os, m.tape, m.output, m.size, fun i hi hne => m.block i hi (by have : i ≠ k := fun e => hne (by rw [e]); omega)⟩ ?_
  cases hv : v.ownBlock with
  | none => exact .inl rfl
  | some b =>
    right
    intro e
    injection e with e
    have := (h.lt b hv).1
    omega
def playF (r c : Int) (xs ys am an bm bn : List Int) (k : Int) : List Int := if twoB r c xs ys am an bm bn && inB 0 1000 k then (Pl.mk am an bm bn r.toNat c.toNat am.length bm.length).cells k.toNat else []
def playD (r c : Int) (xs ys am an bm bn : List Int) (k : Int) : Bool := twoB r c xs ys am an bm bn && inB 0 1000 k
set_option maxRecDepth 100000 in
set_option maxHeartbeats 8000000 in
theorem spPlay (r c : Int) (a : Option Addr) (la ca : Nat) (xs : List Int) (b : Option Addr) (lb cb : Nat) (ys : List Int) (m1 : Option Addr) (n1 k1 : Nat) (am : List Int) (m2 : Option Addr) (n2 k2 : Nat) (an : List Int) (m3 : Option Addr) (n3 k3 : Nat) (bm : List Int) (m4 : Option Addr) (n4 k4 : Nat) (bn : List Int) (k : Int) (w : World)
    (hA : SlV (Value.int .i64) w a la xs) (hB : SlV (Value.int .i64) w b lb ys) (h1 : SlV (Value.int .i64) w m1 n1 am) (h2 : SlV (Value.int .i64) w m2 n2 an) (h3 : SlV (Value.int .i64) w m3 n3 bm) (h4 : SlV (Value.int .i64) w m4 n4 bn)
    (hla : la ≤ 1048576) (hlb : lb ≤ 1048576) (l1 : n1 ≤ 1048576) (l2 : n2 ≤ 1048576) (l3 : n3 ≤ 1048576) (l4 : n4 ≤ 1048576) : Calls Try.prog 71 #[.agg #[.int .i64 r, .int .i64 c, .slice a la ca, .slice b lb cb], .agg #[.slice m1 n1 k1, .slice m2 n2 k2], .agg #[.slice m3 n3 k3, .slice m4 n4 k4], .int .i64 k] w (RetL (playF r c xs ys am an bm bn k) (playF r c xs ys am an bm bn k).length (playD r c xs ys am an bm bn k) w) := by
  obtain ⟨W3, hW3⟩ : ∃ W3, ((w.alloc (.cells #[.int .i64 r, .int .i64 c, .slice a la ca, .slice b lb cb] 44)).alloc (.cells #[.slice m1 n1 k1, .slice m2 n2 k2] 36)).alloc (.cells #[.slice m3 n3 k3, .slice m4 n4 k4] 36) = W3 := ⟨_, rfl⟩
  have x0 : Box W3 w.heap.size [.int .i64 r, .int .i64 c, .slice a la ca, .slice b lb cb] := by rw [← hW3]; exact ((Box.new w [.int .i64 r, .int .i64 c, .slice a la ca, .slice b lb cb] 44).al _).al _
  have x1 : Box W3 (w.heap.size + 1) [.slice m1 n1 k1, .slice m2 n2 k2] := by rw [← hW3]; have := (Box.new (w.alloc (.cells #[.int .i64 r, .int .i64 c, .slice a la ca, .slice b lb cb] 44)) [.slice m1 n1 k1, .slice m2 n2 k2] 36).al (.cells #[.slice m3 n3 k3, .slice m4 n4 k4] 36); simpa using this
  have x2 : Box W3 (w.heap.size + 1 + 1) [.slice m3 n3 k3, .slice m4 n4 k4] := by rw [← hW3]; have := Box.new ((w.alloc (.cells #[.int .i64 r, .int .i64 c, .slice a la ca, .slice b lb cb] 44)).alloc (.cells #[.slice m1 n1 k1, .slice m2 n2 k2] 36)) [.slice m3 n3 k3, .slice m4 n4 k4] 36; simpa using this
  have hb0 : Below w.heap.size w W3 := by rw [← hW3]; repeat (first | exact Below.refl _ _ | refine Below.alloc ?_ (by simp <;> omega) _)
  have HT := hid (l02Two r c a la ca xs b lb cb ys m1 n1 k1 am m2 n2 k2 an m3 n3 k3 bm m4 n4 k4 bn _ _ _ W3 x0 x1 x2 (hA.below hb0) (hB.below hb0) (h1.below hb0) (h2.below hb0) (h3.below hb0) (h4.below hb0) hla hlb l1 l2 l3 l4)
  have HW3 := hid hW3
  have HB0 := hid hb0
  cases hv : twoB r c xs ys am an bm bn with
  | false =>
    have e1 : playF r c xs ys am an bm bn k = [] := by rw [playF, hv]; rfl
    have e2 : playD r c xs ys am an bm bn k = false := by rw [playD, hv]; rfl
    rw [e1, e2]
    rw [hv] at HT
    clear hW3 x0 x1 x2 hb0 hA hB h1 h2 h3 h4 e1 e2 hv
    go_enter Try.func71, Try.ntmps71
    go_wp2_with fail
    rw [HW3.out]
    refine HT.out.mono ?_
    rintro e w' ⟨rfl, n, rfl⟩
    go_wp2_with fail
    go_ret2
    exact retL_none _ _ (below_drewN HB0.out n)
  | true =>
    rw [hv] at HT
    have HIN := hid (fun w' => l00In k 0 1000 w')
    cases hk : inB 0 1000 k with
    | false =>
      have e1 : playF r c xs ys am an bm bn k = [] := by rw [playF, hv, hk]; rfl
      have e2 : playD r c xs ys am an bm bn k = false := by rw [playD, hv, hk]; rfl
      rw [e1, e2]
      rw [hk] at HIN
      clear hW3 x0 x1 x2 hb0 hA hB h1 h2 h3 h4 e1 e2 hv hk
      go_enter Try.func71, Try.ntmps71
      go_wp2_with fail
      rw [HW3.out]
      refine HT.out.mono ?_
      rintro e w' ⟨rfl, n, rfl⟩
      go_wp2_with (go_at_call 96; refine (HIN.out _).mono ?_; rintro e w' ⟨rfl, rfl⟩)
      go_ret2
      exact retL_none _ _ (below_drewN HB0.out n)
    | true =>
      obtain ⟨rn, cn, rfl, rfl, -, -, hP⟩ := two_ok hv
      obtain ⟨kn, rfl, hkn⟩ : ∃ kn : Nat, k = kn ∧ kn ≤ 1000 := by
        unfold inB at hk
        simp only [decide_eq_true_eq] at hk
        exact ⟨k.toNat, by omega, by omega⟩
      have e1 : playF rn cn xs ys am an bm bn kn = (Pl.mk am an bm bn rn cn am.length bm.length).cells kn := by rw [playF, hv, hk]; rfl
      have e2 : playD rn cn xs ys am an bm bn kn = true := by rw [playD, hv, hk]; rfl
      rw [e1, e2]
      rw [hk] at HIN
      obtain ⟨P, hPP⟩ : ∃ P, Pl.mk am an bm bn rn cn am.length bm.length = P := ⟨_, rfl⟩
      have y1 : am = P.am := by rw [← hPP]
      have y2 : an = P.an := by rw [← hPP]
      have y3 : bm = P.bm := by rw [← hPP]
      have y4 : bn = P.bn := by rw [← hPP]
      have y5 : rn = P.rn := by rw [← hPP]
      have y6 : cn = P.cn := by rw [← hPP]
      have y7 : n1 = P.na := by rw [← hPP]; exact h1.1.symm
      have y8 : n3 = P.nb := by rw [← hPP]; exact h3.1.symm
      rw [hPP] at hP
      rw [hPP]
      have z2 : n2 = P.na * P.cn := by rw [← h2.1, y2]; exact hP.lan
      have z4 : n4 = P.nb * P.rn := by rw [← h4.1, y4]; exact hP.lbn
      have HZ2 := hid z2
      have HZ4 := hid z4
      have hh1 := h1.below hb0
      have hh2 := h2.below hb0
      have hh3 := h3.below hb0
      have hh4 := h4.below hb0
      clear hW3 hb0 hA hB h1 h2 h3 h4 e1 e2 hv hk hPP z2 z4
      subst y7 y8
      rw [y1] at hh1
      rw [y2] at hh2
      rw [y3] at hh3
      rw [y4] at hh4
      rw [y5, y6] at x0
      have HX0 := hid x0
      have HX1 := hid x1
      have HX2 := hid x2
      have HS1 := hid hh1
      have HS2 := hid hh2
      have HS3 := hid hh3
      have HS4 := hid hh4
      clear x0 x1 x2 hh1 hh2 hh3 hh4 y1 y2 y3 y4 y5 y6
      have hlen := P.cells_len kn
      rw [hlen]
      clear hlen
      go_enter Try.func71, Try.ntmps71
      go_wp2_with fail
      rw [HW3.out]
      refine HT.out.mono ?_
      rintro e wt ⟨rfl, n, hwq⟩
      have HQ : Hid (Below W3.heap.size W3 wt) := hid (by rw [hwq]; exact below_drewN (Below.refl _ _) n)
      clear hwq
      go_wp2_with (go_at_call 96; refine (HIN.out _).mono ?_; rintro e wq ⟨rfl, rfl⟩)
      go_loopw [10, 11, 12, 13, 14, 15, 16] (fun v x y i z1 z2 z3 wr => ∃ j : Nat, j ≤ kn ∧ i = .int .i64 j ∧ x = .int .i64 (P.st j).1 ∧ y = .int .i64 (P.st j).2 ∧ wr.ownsRow wq.heap.size 2 1 v j ((P.cells j).map (Value.int .i64)) ∧ Below wq.heap.size wq wr) (fun _ _ _ i _ _ _ _ => kn - (intOf i).toNat)
      case atStart =>
        refine ⟨0, Nat.zero_le _, rfl, rfl, rfl, ?_, (Below.refl _ _).alloc (Nat.le_refl _) _⟩
        exact World.ownsRow_made (size := 1) (e := 2) wq #[] 0 (Nat.le_refl _) (by unfold maxLen; omega) rfl
      case round =>
        obtain ⟨j, hj, rfl, rfl, rfl, hown, hbel⟩ := hrel
        have HOWN := hid hown
        have HBEL := hid hbel
        clear hown hbel
        by_cases hlt : j < kn
        · obtain ⟨s1, s2⟩ := hP.st_lt j
          have hst := spStep P hP (P.st j).1 (P.st j).2 s1 s2 n2 n4 HZ2.out HZ4.out _ _ m1 k1 m2 k2 m3 k3 m4 k4 _ _ _ wr ((HX0.out.below HQ.out).below HBEL.out) ((HX1.out.below HQ.out).below HBEL.out) ((HX2.out.below HQ.out).below HBEL.out) ((HS1.out.below HQ.out).below HBEL.out) ((HS2.out.below HQ.out).below HBEL.out) ((HS3.out.below HQ.out).below HBEL.out) ((HS4.out.below HQ.out).below HBEL.out)
          have HST := hid hst
          have HN : Hid (P.st (j + 1) = P.nxt ((P.st j).1, (P.st j).2)) := hid rfl
          have HC : Hid (P.cells (j + 1) = P.cells j ++ [((P.cell ((P.st j).1, (P.st j).2) : Nat) : Int)]) := hid (P.cells_succ j)
          clear hst s1 s2
          obtain ⟨cc, hcc⟩ : ∃ cc, P.cell ((P.st j).1, (P.st j).2) = cc := ⟨_, rfl⟩
          obtain ⟨nn, hnn⟩ : ∃ nn, P.nxt ((P.st j).1, (P.st j).2) = nn := ⟨_, rfl⟩
          obtain ⟨ss, hss⟩ : ∃ ss, P.st j = ss := ⟨_, rfl⟩
          rw [hcc, hnn] at HST
          rw [hnn] at HN
          rw [hcc] at HC
          rw [hss] at HST
          rw [hss]
          obtain ⟨sa, sb⟩ := ss
          obtain ⟨na, nb⟩ := nn
          clear hcc hnn hss
          go_wp2_with (first
            | (go_at_call 118; refine HST.out.mono ?_; rintro e w5 ⟨rfl, m, hw5⟩; have hbw : Below wr.heap.size wr w5 := (by rw [hw5]; exact below_drewN (Below.refl _ _) _); have HOWN3 := hid (row_below HOWN.out hbw); have HBL3 := hid (below_to HBEL.out hbw); clear hbw hw5)
            | (at_builtin; refine wpList_appI rfl (.tmp 37) (.tmp 39) rfl wq _ j (P.cells j) (cc : Int) rfl HOWN3.out HBL3.out (by omega) rfl ?_; intro v2 w6 hown1 hb1; have HO1 := hid hown1; have HB1 := hid hb1; clear hown1 hb1))
          go_roundw
          case rel => exact ⟨j + 1, by omega, by go_num, by rw [HN.out], by rw [HN.out], by rw [HC.out]; exact HO1.out, HB1.out⟩
          case measure => simp [intOf]; omega
        · obtain rfl : j = kn := by omega
          obtain ⟨a', cap', hv, hcap, hob⟩ := OwB.of_row HOWN.out
          subst hv
          have HOB := hid hob
          clear hob hcap
          go_wp2_with fail
          go_ret2
          have hq2 : Below w.heap.size w wq := below_to HB0.out HQ.out
          exact ⟨a', cap', rfl, HOB.out.mono hq2.size (Nat.le_refl _), below_to hq2 HBEL.out⟩
end TryWalk
end Go.Proofs.Ytlbmmecjiopbbaa
