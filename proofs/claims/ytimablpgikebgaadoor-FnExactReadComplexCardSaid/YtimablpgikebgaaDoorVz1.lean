/- Complex numbers read: one part. No condition. -/
import Derived.Test.YtimablpgikebgaaDoorVu5
namespace Go.Proofs.YtimablpgikebgaaDoor
open Go.RowKit Sl
set_option linter.unusedVariables false
set_option linter.unusedSimpArgs false
namespace Walk
def dg (p : List UInt8) : Nat := if okP p = true then rd p else 0
set_option maxRecDepth 100000 in
set_option maxHeartbeats 4000000 in
theorem l01Digits (t : ByteArray) (h8 : t.size = 8) (wr : World) : Calls Tryd.prog 63 #[.string t] wr fun e w' => e = .returned (.tuple #[.float .f32 (dg t.data.toList), .bool (okP t.data.toList)]) ∧ w' = wr := by
  obtain ⟨p, hpt⟩ : ∃ p, t.data.toList = p := ⟨_, rfl⟩
  have HPL : Hid (p.length = 8) := hid (by rw [← hpt]; exact h8)
  have HTP : Hid (∀ i, (hi : i < t.size) → p.getD i 0 = t[i]) := hid (by
    intro i hi
    have hi2 : i < t.data.toList.length := hi
    rw [← hpt, List.getD_eq_getElem?_getD, List.getElem?_eq_getElem hi2]
    rfl)
  rw [hpt]
  clear hpt
  go_enter Tryd.func63, Tryd.ntmps63
  go_wp2_with fail
  go_loop [4, 5] (fun n j => ∃ i : Nat, i ≤ 8 ∧ j = .int .i64 i ∧ n = .int .i64 (fh (p.take i) : Nat) ∧ ∀ q, q < i → low16 (p.getD q 0) = true) (fun _ j => 8 - (intOf j).toNat)
  case atStart => exact ⟨0, Nat.zero_le _, rfl, rfl, fun q hq => absurd hq (Nat.not_lt_zero _)⟩
  case round =>
    obtain ⟨i, hi, rfl, rfl, hlow⟩ := hrel
    have HLOW := hid hlow
    have hlt2 := fh_lt p i (by rw [HPL.out]; exact hi) (fun j hj => (low_hd (hlow j hj)).1)
    clear hlow
    by_cases hi8 : i < 8
    · have hit : i < t.size := by omega
      have HST := hid (fh_step p i (by rw [HPL.out]; exact hi8))
      have HCC := hid (HTP.out i hit)
      obtain ⟨n, hn0⟩ : ∃ n, fh (p.take i) = n := ⟨_, rfl⟩
      have hn := pow16_le hlt2 (by omega)
      rw [hn0] at hn HST ⊢
      rw [HCC.out] at HST
      have HN := hid hn
      have hw1 : wrap64 (16 * (n : Int)) = 16 * n := wr64 (by omega) (by omega)
      clear hlt2 hn0 hn
      by_cases hlw : low16 t[i] = true
      · obtain ⟨e1, -, -⟩ := low_hd hlw
        obtain ⟨d, hd0⟩ : ∃ d, hd t[i] = d := ⟨_, rfl⟩
        rw [hd0] at e1 HST
        have hw2 : wrap64 (16 * (n : Int) + d) = 16 * n + d := wr64 (by have := HN.out; omega) (by have := HN.out; omega)
        have HLW := hid hlw
        rcases (low_iff _).1 hlw with ⟨g1, g2⟩ | ⟨g1, g2⟩
        · have e3 : ((t[i].toNat : Int) - 48) = d := (hd_dig ⟨g1, g2⟩).1.trans (congrArg Int.ofNat hd0)
          clear hlw hd0
          go_wp2_with fail
          go_round
          case rel => exact ⟨i + 1, by omega, by go_num, congrArg (Value.int .i64) (hw2.trans (by rw [HST.out]; rfl)), fun q hq => by
            by_cases e : q = i
            · subst e; rw [HCC.out]; exact HLW.out
            · exact HLOW.out q (by omega)⟩
          case measure => simp [intOf]; omega
        · have e3 : ((t[i].toNat : Int) - 97 + 10) = d := (hd_letter ⟨g1, g2⟩).trans (congrArg Int.ofNat hd0)
          clear hlw hd0
          go_wp2_with fail
          go_round
          case rel => exact ⟨i + 1, by omega, by go_num, congrArg (Value.int .i64) (hw2.trans (by rw [HST.out]; rfl)), fun q hq => by
            by_cases e : q = i
            · subst e; rw [HCC.out]; exact HLW.out
            · exact HLOW.out q (by omega)⟩
          case measure => simp [intOf]; omega
      · have HNO : Hid (okP p = false) := hid (by
          cases ho : okP p with
          | false => rfl
          | true =>
            have := okP_low ho (p.getD i 0) (by rw [List.getD_eq_getElem?_getD, List.getElem?_eq_getElem (by rw [HPL.out]; exact hi8)]; exact List.getElem_mem _)
            rw [HCC.out] at this
            exact absurd this hlw)
        have hnl : ¬ ((48 ≤ (t[i].toNat : Int) ∧ (t[i].toNat : Int) ≤ 57) ∨ (97 ≤ (t[i].toNat : Int) ∧ (t[i].toNat : Int) ≤ 102)) := fun h => hlw ((low_iff _).2 h)
        clear hlw
        go_wp2
        all_goals first
          | omega
          | (go_ret2; exact ⟨by unfold dg; rw [HNO.out]; rfl, rfl⟩)
    · obtain rfl : i = 8 := by omega
      have hall : ∀ c ∈ p, low16 c = true := by
        intro c hc
        obtain ⟨q, hq, rfl⟩ := List.mem_iff_getElem.1 hc
        have := HLOW.out q (by rw [← HPL.out]; exact hq)
        rwa [List.getD_eq_getElem?_getD, List.getElem?_eq_getElem hq] at this
      have hfull : p.take 8 = p := List.take_of_length_le (by rw [HPL.out]; exact Nat.le_refl _)
      rw [hfull]
      have HN := hid (fh_lt8 HPL.out hall)
      have HRD := hid (rd_low hall)
      have HOKP : Hid (bo (fh p) = fh p → okP p = true) := hid (okP_of HPL.out hall)
      have HNOP : Hid (bo (fh p) ≠ fh p → okP p = false) := hid (fun h => by
        cases ho : okP p with
        | false => rfl
        | true => exact absurd (okP_bo ho) h)
      obtain ⟨n, hn0⟩ : ∃ n, fh p = n := ⟨_, rfl⟩
      rw [hn0] at HN HRD HOKP HNOP ⊢
      clear hall hfull hn0 hlt2
      go_wp2_with fail
      refine (l01From n HN.out _).mono ?_
      rintro e w2 ⟨rfl, hw2⟩
      subst hw2
      go_wp2_with fail
      refine (l01Bits n HN.out _).mono ?_
      rintro e w3 ⟨rfl, hw3⟩
      subst hw3
      by_cases hb : bo n = n
      · have HOK2 := hid (HOKP.out hb)
        rw [hb]
        clear hb
        go_wp2_with fail
        go_ret2
        exact ⟨by unfold dg; rw [HOK2.out, if_pos rfl, HRD.out]; rfl, rfl⟩
      · have HNO := hid (HNOP.out hb)
        have hbn : (((bo n : Nat) : Int) != (n : Int)) = true := by simp; omega
        clear hb
        go_wp2_with fail
        go_ret2
        exact ⟨by unfold dg; rw [HNO.out]; rfl, rfl⟩
end Walk
end Go.Proofs.YtimablpgikebgaaDoor
