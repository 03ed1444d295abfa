/- Games: a table in which the second one loses what the first one gains: the program's side, where it answers. No condition. -/
import Derived.Test.YtlbmmecjiopbbaaWz1
namespace Go.Proofs.Ytlbmmecjiopbbaa
open Go.RowKit Flo Sl Pg
set_option linter.unusedVariables false
set_option linter.unusedSimpArgs false
namespace TryWalk
set_option maxRecDepth 100000 in
set_option maxHeartbeats 8000000 in
theorem imZeroYes (r c : Int) (p : Addr) (len cap : Nat) (xs : List Int) (w : World) (h : SlV (Value.int .i64) w (some p) len xs) (hl : len ≤ 1048576) (hv : validG r c xs (negs xs) = true) : Calls Try.prog 44 #[.int .i64 r, .int .i64 c, .slice (some p) len cap] w (RetZ r c len xs (negs xs) true w) := by
  have hlen : xs.length = len := h.1
  have HLEN := hid hlen
  have bw : Below w.heap.size w (w.alloc (.cells #[.int .i64 0, .int .i64 0, .slice none 0 0, .slice none 0 0] 44)) := Below.alloc (Below.refl _ _) (Nat.le_refl _) _
  have hx : Box (w.alloc (.cells #[.int .i64 0, .int .i64 0, .slice none 0 0, .slice none 0 0] 44)) w.heap.size [.int .i64 0, .int .i64 0, .slice none 0 0, .slice none 0 0] := Box.new _ _ _
  have hs := h.below bw
  have HB := hid bw
  have HX := hid hx
  have HS := hid hs
  have HS0 := hid h
  have hsz0 : (w.alloc (.cells #[.int .i64 0, .int .i64 0, .slice none 0 0, .slice none 0 0] 44)).heap.size = w.heap.size + 1 := by simp
  have HSZ0 := hid hsz0
  rw [validZ] at hv
  simp only [Bool.and_eq_true] at hv
  obtain ⟨⟨h1, h2⟩, h3⟩ := hv
  have hgall : ∀ j, j < len → -1000 ≤ xs.getD j 0 ∧ xs.getD j 0 ≤ 1000 := by
    intro j hj
    unfold gainsB inB at h3
    simp only [Bool.and_eq_true, List.all_eq_true, decide_eq_true_eq] at h3
    exact h3.2 _ (by rw [List.getD_eq_getElem?_getD, List.getElem?_eq_getElem (by rw [hlen]; exact hj)]; exact List.getElem_mem _)
  have HGA := hid hgall
  have H1 := hid (fun w' => isSide r w')
  have H2 := hid (fun w' => isSide c w')
  have H3 := hid (isGains r c (some p) len cap xs _ h1 h2 HS.out hl)
  rw [h1] at H1
  rw [h2] at H2
  rw [h3] at H3
  clear h1 h2 h3 bw hx hs h hlen hgall hsz0
  go_enter Try.func44, Try.ntmps44
  go_wp2_with fail
  refine (H1.out _).mono ?_
  rintro e w' ⟨rfl, rfl⟩
  go_wp2_with fail
  refine (H2.out _).mono ?_
  rintro e w' ⟨rfl, rfl⟩
  go_wp2_with fail
  refine H3.out.mono ?_
  rintro e wq ⟨rfl, n, hw'⟩
  have HBX : Hid (Box wq w.heap.size [.int .i64 0, .int .i64 0, .slice none 0 0, .slice none 0 0]) := hid (by rw [hw']; exact HX.out.dr n)
  have HBW : Hid (Below w.heap.size w wq) := hid (by rw [hw']; exact below_drewN HB.out n)
  have HSQ : Hid (SlV (Value.int .i64) wq (some p) len xs) := hid (by rw [hw']; exact HS.out.drewN n)
  have HSZQ : Hid (wq.heap.size = w.heap.size + 1) := hid (by rw [hw']; exact HSZ0.out)
  clear hw'
  go_wp2_with fail
  refine (clone p len cap xs wq HSQ.out hl).mono ?_
  rintro e w1 ⟨v, rfl, hown, hbel⟩
  obtain ⟨aA, cA, hvA, -, hoA⟩ := OwB.of_row hown
  subst hvA
  have HO := hid hoA
  have HB1 := hid hbel
  have hsz1 : w.heap.size + 1 ≤ w1.heap.size := by have := hbel.size; have := HSZQ.out; omega
  have HXR : Hid (Box w1 w.heap.size [.int .i64 0, .int .i64 0, .slice none 0 0, .slice none 0 0]) := hid (HBX.out.below hbel)
  have HBV : Hid (Below w.heap.size w w1) := hid (below_to HBW.out hbel)
  clear hoA hown hbel
  go_wp2_with fail
  go_loopw [10, 34] (fun x i wr => ∃ (k : Nat) (vB : Value), k ≤ len ∧ i = .int .i64 (k : Int) ∧ wr.ownsRow (w1.heap.size + 1) 2 1 vB k (((negs xs).take k).map (Value.int .i64)) ∧ Box wr w1.heap.size [.int .i64 r, .int .i64 c, .slice aA len cA, vB] ∧ Box wr w.heap.size [.int .i64 0, .int .i64 0, .slice none 0 0, .slice none 0 0] ∧ OwB wq.heap.size w1.heap.size wr aA len xs ∧ Below w.heap.size w wr ∧ w1.heap.size + 1 ≤ wr.heap.size) (fun _ i _ => len - (intOf i).toNat)
  case atStart =>
    refine ⟨0, .slice none 0 0, Nat.zero_le _, rfl, World.ownsRow_nil _ _ _ _, Box.new _ _ _, HXR.out.al _, HO.out.below (Below.alloc (Below.refl _ _) (Nat.le_refl _) _), HBV.out.alloc (by omega) _, by simp⟩
  case round =>
    obtain ⟨k, vB, hk, rfl, hrow, hbx, hbr, hoa, hbel, hsz⟩ := hrel
    have HROW := hid hrow
    have HBX := hid hbx
    have HBR := hid hbr
    have HOA := hid hoa
    have HBEL := hid hbel
    have HSZ := hid hsz
    clear hrow hoa hbel hsz
    by_cases hlt : k < len
    · obtain ⟨bq, oq, hq, hbq, -⟩ := HS0.out.2 (by omega)
      have hq' : p = ⟨bq, oq, none⟩ := by injection hq
      subst hq'
      obtain ⟨bq', oq', hq2, -, hcq⟩ := (HS0.out.below HBEL.out).2 (by omega)
      obtain ⟨rfl, rfl⟩ : bq = bq' ∧ oq = oq' := by injection hq2 with e; injection e with e1 e2 e3; exact ⟨e1, e2⟩
      have d1 : wr.cell? ⟨bq, oq + k, none⟩ = some (.int .i64 (xs.getD k 0)) := hcq k hlt
      have HT : Hid ((negs xs).take (k + 1) = (negs xs).take k ++ [neg1 (xs.getD k 0)]) := hid (negs_at (by rw [HLEN.out]; exact hlt))
      have hg := HGA.out k hlt
      obtain ⟨u, hu⟩ : ∃ u, xs.getD k 0 = u := ⟨_, rfl⟩
      rw [hu] at d1 HT hg
      have hn1 : neg1 u = -u := IntWalk.i64_in _ (by omega)
      rw [hn1] at HT
      have f3 := (hbx.2 3 _ rfl).1
      have z3 := (hbx.2 3 _ rfl).2
      clear hu hcq hq hq2 hbx hbr hn1
      go_wp2_with (at_builtin; refine wpList_appC rfl (.tmp 39) (.tmp 42) rfl (w1.heap.size + 1) HSZ.out vB k _ (-u) rfl HROW.out (by omega) rfl ?_; intro v' w3 hr3 hb3; have hx3 := HBX.out.belowZ hb3 (Nat.lt_succ_self _); have f3' := (hx3.2 3 _ rfl).1; have z3' := (hx3.2 3 _ rfl).2; have HR3 := hid hr3; have HB3 := hid hb3; have HX3 := hid hx3; clear hr3 hb3 hx3; obtain ⟨a3, c3, hv3, -⟩ := OwB.of_row HR3.out; subst hv3)
      go_roundw
      case rel =>
        refine ⟨k + 1, _, by omega, by go_num, by rw [HT.out]; exact row_setO HR3.out _ (by simp), HX3.out.set 3 _, ((HBR.out.belowZ HB3.out (by omega)).off _ _ (by simp; omega)), ?_, ?_, by have := HB3.out.size; have := HSZ.out; simp [World.setCell]; omega⟩
        · exact (HOA.out.belowB (HB3.out.mono (Nat.le_succ _))).off _ _ (.inr (Nat.le_refl _))
        · exact Below.setCell (HBEL.out.trans (HB3.out.mono (by omega))) (by simp; omega) _
      case measure => simp [intOf]; omega
    · obtain rfl : k = len := by omega
      have e0 : (negs xs).take k = negs xs := List.take_of_length_le (by rw [negs, List.length_map, HLEN.out]; exact Nat.le_refl _)
      have HE := hid e0
      clear e0
      obtain ⟨aB, cB, hvB, -, hoB⟩ := OwB.of_row HROW.out
      subst hvB
      rw [HE.out] at hoB
      have HOB := hid hoB
      clear hoB
      have f0 := (hbx.2 0 _ rfl).1
      have f1 := (hbx.2 1 _ rfl).1
      have f2 := (hbx.2 2 _ rfl).1
      have f3 := (hbx.2 3 _ rfl).1
      have g0 := (hbr.2 0 _ rfl).1
      have g1 := (hbr.2 1 _ rfl).1
      have g2 := (hbr.2 2 _ rfl).1
      have g3 := (hbr.2 3 _ rfl).1
      have z0 := (hbr.2 0 _ rfl).2
      have z1 := (hbr.2 1 _ rfl).2
      have z2 := (hbr.2 2 _ rfl).2
      have z3 := (hbr.2 3 _ rfl).2
      clear hbx hbr
      go_wp2_with fail
      refine bodyPost_ret (v := .tuple #[.agg #[.int .i64 r, .int .i64 c, .slice aA k cA, .slice aB k cB], .bool true]) (by simp [results, Try.results44, go_sem, g0, g1, g2, g3]) rfl ?_
      have o1 := HOA.out
      have o2 := HOB.out
      have q1 := HSZ.out
      have q2 := HSZQ.out
      refine ⟨aA, cA, aB, cB, w1.heap.size + 1, rfl, ?_, ?_, by omega, ?_, ?_⟩
      · refine OwB.mono (lo := wq.heap.size) (hi := w1.heap.size) ?_ (by omega) (by omega)
        repeat (first | exact o1 | refine OwB.off ?_ _ _ (.inl (by simp; omega)))
      · refine OwB.mono (lo := w1.heap.size + 1) (hi := wr.heap.size) ?_ (by omega) (by simp [World.setCell])
        repeat (first | exact o2 | refine OwB.off ?_ _ _ (.inl (by simp; omega)))
      · simp [World.setCell]; omega
      · repeat (first | exact HBEL.out | refine Below.setCell ?_ (by simp) _)
end TryWalk
end Go.Proofs.Ytlbmmecjiopbbaa
