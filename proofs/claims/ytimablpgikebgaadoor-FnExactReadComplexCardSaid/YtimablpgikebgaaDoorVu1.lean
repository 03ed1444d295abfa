/- strconv.ParseUint at base 16, for texts of eight bytes. No condition but the library's error value. -/
import Derived.Test.YtimablpgikebgaaDoorVd4
import Derived.Test.YtimablpgikebgaaDoorVh3
import Derived.Lib.ConvBytes
namespace Go.Proofs.YtimablpgikebgaaDoor
open Go.RowKit
set_option linter.unusedVariables false
set_option linter.unusedSimpArgs false
namespace Walk
def lo (c : UInt8) : Nat := (c ||| 32).toNat
theorem lo_fin : ∀ i : Fin 256, bits .or .u8 (i.val : Int) 32 = ((lo (UInt8.ofNat i.val) : Nat) : Int) := by decide +kernel
theorem lo_eq (c : UInt8) : bits .or .u8 (c.toNat : Int) 32 = ((lo c : Nat) : Int) := by
  have := lo_fin ⟨c.toNat, c.toNat_lt⟩
  simpa using this
theorem lower (c : UInt8) (w : World) : Calls Tryd.prog 93 #[.int .u8 (c.toNat : Int)] w fun e w' => e = .returned (.int .u8 (lo c : Nat)) ∧ w' = w := by
  have h := lo_eq c
  go_enter Tryd.func93, Tryd.ntmps93
  go_wp2
  go_ret
  exact ⟨rfl, rfl⟩
/-- What a byte stands for: at 16 or more, no digit of the base. -/
def hd (c : UInt8) : Nat := if 48 ≤ c.toNat ∧ c.toNat ≤ 57 then c.toNat - 48 else if 97 ≤ lo c ∧ lo c ≤ 122 then lo c - 87 else 255
def fh (l : List UInt8) : Nat := l.foldl (fun n c => 16 * n + hd c) 0
def pu (l : List UInt8) : Option Nat := if (l.all fun c => decide (hd c < 16)) = true then some (fh l) else none
theorem hd_dig {c : UInt8} (h : 48 ≤ (c.toNat : Int) ∧ (c.toNat : Int) ≤ 57) : ((c.toNat : Int) - 48) = ((hd c : Nat) : Int) ∧ hd c < 16 := by
  have : hd c = c.toNat - 48 := by unfold hd; rw [if_pos ⟨by omega, by omega⟩]
  omega
theorem hd_let {c : UInt8} (h : ¬ (48 ≤ (c.toNat : Int) ∧ (c.toNat : Int) ≤ 57)) (h2 : 97 ≤ (lo c : Int) ∧ (lo c : Int) ≤ 122) : ((lo c : Int) - 97 + 10) = ((hd c : Nat) : Int) ∧ hd c ≤ 35 := by
  have : hd c = lo c - 87 := by unfold hd; rw [if_neg (by omega), if_pos ⟨by omega, by omega⟩]
  omega
theorem hd_bad {c : UInt8} (h : ¬ (48 ≤ (c.toNat : Int) ∧ (c.toNat : Int) ≤ 57)) (h2 : ¬ (97 ≤ (lo c : Int) ∧ (lo c : Int) ≤ 122)) : hd c = 255 := by
  unfold hd; rw [if_neg (by omega), if_neg (by omega)]
theorem fh_step (l : List UInt8) (k : Nat) (hk : k < l.length) : fh (l.take (k + 1)) = 16 * fh (l.take k) + hd (l.getD k 0) := by
  unfold fh
  rw [List.take_succ_eq_append_getElem hk, List.foldl_append, List.getD_eq_getElem?_getD, List.getElem?_eq_getElem hk]
  rfl
theorem fh_lt (l : List UInt8) : ∀ k, k ≤ l.length → (∀ j, j < k → hd (l.getD j 0) < 16) → fh (l.take k) < 16 ^ k
  | 0, _, _ => by simp [fh]
  | k + 1, hk, h => by
    rw [fh_step l k (by omega), Nat.pow_succ]
    have := fh_lt l k (by omega) (fun j hj => h j (by omega))
    have := h k (by omega)
    omega
theorem pow16_le {n k : Nat} (h : n < 16 ^ k) (hk : k ≤ 7) : n < 268435456 := by
  have : 16 ^ k ≤ 16 ^ 7 := Nat.pow_le_pow_right (by decide) hk
  have e : (16 : Nat) ^ 7 = 268435456 := by decide +kernel
  omega
set_option maxRecDepth 100000 in
set_option maxHeartbeats 4000000 in
theorem parse16 (t : ByteArray) (ht : t.size = 8) (w : World) : Calls Tryd.prog 75 #[.string t, .int .i64 16, .int .i64 32] w fun e w' => (∃ v err, e = .returned (.tuple #[.int .u64 (v : Nat), err]) ∧ v < 4294967296 ∧ (((∀ j, j < 8 → hd (t.data.toList.getD j 0) < 16) ∧ v = fh t.data.toList ∧ err = .nilIface) ∨ (v = 0 ∧ (∃ j, j < 8 ∧ 16 ≤ hd (t.data.toList.getD j 0)) ∧ err = .iface 104 (.int .i64 2)))) ∧ Below w.heap.size w w' := by
  have hne : (t.toList == []) = false := by
    rw [ByteArray.toList_eq]
    refine beq_eq_false_iff_ne.2 fun h => ?_
    have : t.data.toList.length = 8 := ht
    rw [h] at this
    cases this
  have hlen : t.data.toList.length = 8 := ht
  have HLEN := hid hlen
  have hcv := Lib.run_convert_string_bytes (P := Tryd.prog) w 9 79 5 t Tryd.underlying9 Tryd.underlying79 Tryd.underlying5
  rw [ht] at hcv
  have hcells : ∀ j, j < 8 → (Lib.bytesWorld w 5 t).cell? ⟨w.heap.size, j, none⟩ = some (.int .u8 (t.data.toList.getD j 0).toNat) := fun j hj => Lib.bytesWorld_cell w 5 t j (by omega)
  have HBW := hid (Lib.bytesWorld_below w 5 t)
  obtain ⟨wb, hwb⟩ : ∃ wb, Lib.bytesWorld w 5 t = wb := ⟨_, rfl⟩
  rw [hwb] at hcv hcells HBW
  obtain ⟨l, hl⟩ : ∃ l, t.data.toList = l := ⟨_, rfl⟩
  rw [hl] at hcells HLEN ⊢
  have HC := hid hcells
  obtain ⟨cp, hcp⟩ : ∃ cp, grownCap w 8 0 5 = cp := ⟨_, rfl⟩
  rw [hcp] at hcv
  clear hcells hwb hlen hl hcp
  go_enter Tryd.func75, Tryd.ntmps75
  go_wp2_with fail
  go_loop [12, 13, 101] (fun u n i => ∃ k : Nat, k ≤ 8 ∧ u = .bool false ∧ i = .int .i64 k ∧ n = .int .u64 (fh (l.take k) : Nat) ∧ ∀ j, j < k → hd (l.getD j 0) < 16) (fun _ _ i => 8 - (intOf i).toNat)
  case atStart => exact ⟨0, Nat.zero_le _, rfl, rfl, rfl, fun j hj => absurd hj (Nat.not_lt_zero _)⟩
  case round =>
    obtain ⟨k, hk, rfl, rfl, rfl, hall⟩ := hrel
    have HALL := hid hall
    have hlt2 := fh_lt l k (by rw [HLEN.out]; exact hk) hall
    clear hall
    by_cases hlt : k < 8
    · have hc1 := HC.out k hlt
      have HST := hid (fh_step l k (by rw [HLEN.out]; exact hlt))
      obtain ⟨c, hc⟩ : ∃ c, l.getD k 0 = c := ⟨_, rfl⟩
      have HCC := hid hc
      rw [hc] at hc1 HST
      have hn := pow16_le hlt2 (by omega)
      obtain ⟨n, hn0⟩ : ∃ n, fh (l.take k) = n := ⟨_, rfl⟩
      rw [hn0] at hn HST ⊢
      clear hc hlt2 hn0
      have q1 : decide (1152921504606846976 ≤ (n : Int)) = false := by simp; omega
      have q2 : IntKind.u64.wrap ((n : Int) * 16) = n * 16 := IntWalk.u64_in _ (by omega)
      have HN := hid hn
      clear hn
      by_cases hdig : 48 ≤ (c.toNat : Int) ∧ (c.toNat : Int) ≤ 57
      · obtain ⟨e1, e2⟩ := hd_dig hdig
        obtain ⟨d, hd0⟩ : ∃ d, hd c = d := ⟨_, rfl⟩
        rw [hd0] at e1 e2 HST
        have HD := hid hd0
        obtain ⟨g1, g2⟩ := hdig
        have q3 : IntKind.u64.wrap ((n : Int) * 16 + d) = n * 16 + d := IntWalk.u64_in _ (by have := HN.out; omega)
        have q4 : decide ((n : Int) * 16 + d < n * 16) = false := by simp; omega
        have q5 : decide (4294967295 < (n : Int) * 16 + d) = false := by have := HN.out; simp; omega
        have q6 : decide (16 ≤ (d : Int)) = false := by simp; omega
        clear hd0 
        go_wp2_with fail
        go_round
        case rel => exact ⟨k + 1, by omega, rfl, by go_num, congrArg (Value.int .u64) (by rw [HST.out]; omega), fun j hj => by
          by_cases e : j = k
          · rw [e, HCC.out, HD.out]; omega
          · exact HALL.out j (by omega)⟩
        case measure => simp [intOf]; omega
      · have hlo : lo c ≤ 255 := by have := (c ||| 32).toNat_lt; unfold lo; omega
        have hcl : c.toNat ≤ 255 := by have := c.toNat_lt; omega
        by_cases hlet : 97 ≤ (lo c : Int) ∧ (lo c : Int) ≤ 122
        · obtain ⟨e1, e2⟩ := hd_let hdig hlet
          obtain ⟨d, hd0⟩ : ∃ d, hd c = d := ⟨_, rfl⟩
          rw [hd0] at e1 e2 HST
          have HD := hid hd0
          have h95 : ((c.toNat : Int) == 95) = false := by
            refine beq_eq_false_iff_ne.2 fun h => ?_
            have hc95 : c = 95 := UInt8.toNat_inj.1 (show c.toNat = 95 by omega)
            rw [hc95] at hlet
            exact absurd hlet.2 (by decide)
          obtain ⟨g1, g2⟩ := hlet
          by_cases hd16 : d < 16
          · have q3 : IntKind.u64.wrap ((n : Int) * 16 + d) = n * 16 + d := IntWalk.u64_in _ (by have := HN.out; omega)
            have q4 : decide ((n : Int) * 16 + d < n * 16) = false := by simp; omega
            have q5 : decide (4294967295 < (n : Int) * 16 + d) = false := by have := HN.out; simp; omega
            have q6 : decide (16 ≤ (d : Int)) = false := by simp; omega
            clear hd0
            go_wp2_with (go_at_call 93; refine (lower c _).mono ?_; rintro e w' ⟨rfl, rfl⟩)
            all_goals
              go_round
              case rel => exact ⟨k + 1, by omega, rfl, by go_num, congrArg (Value.int .u64) (by rw [HST.out]; omega), fun j hj => by
                by_cases e : j = k
                · rw [e, HCC.out, HD.out]; omega
                · exact HALL.out j (by omega)⟩
              case measure => simp [intOf]; omega
          · have q6 : decide (16 ≤ (d : Int)) = true := by simp; omega
            have HBD : Hid (16 ≤ hd (l.getD k 0)) := hid (by rw [HCC.out, HD.out]; omega)
            clear hd0
            go_wp2_with (go_at_call 93; refine (lower c _).mono ?_; rintro e w' ⟨rfl, rfl⟩)
            all_goals
              go_ret2
              exact ⟨⟨0, _, rfl, by decide, .inr ⟨rfl, ⟨k, hlt, HBD.out⟩, rfl⟩⟩, HBW.out⟩
        · have HBD : Hid (16 ≤ hd (l.getD k 0)) := hid (by rw [HCC.out, hd_bad hdig hlet]; decide)
          cases h95 : ((c.toNat : Int) == 95) with
          | true =>
            go_wp2_with (go_at_call 93; refine (lower c _).mono ?_; rintro e w' ⟨rfl, rfl⟩)
            all_goals
              go_ret2
              exact ⟨⟨0, _, rfl, by decide, .inr ⟨rfl, ⟨k, hlt, HBD.out⟩, rfl⟩⟩, HBW.out⟩
          | false =>
            go_wp2_with (go_at_call 93; refine (lower c _).mono ?_; rintro e w' ⟨rfl, rfl⟩)
            all_goals
              go_ret2
              exact ⟨⟨0, _, rfl, by decide, .inr ⟨rfl, ⟨k, hlt, HBD.out⟩, rfl⟩⟩, HBW.out⟩
    · obtain rfl : k = 8 := by omega
      have HF : Hid (fh (l.take 8) = fh l) := hid (by rw [List.take_of_length_le (by rw [HLEN.out]; exact Nat.le_refl _)])
      have hv : fh l < 4294967296 := by
        rw [HF.out] at hlt2
        have e : (16 : Nat) ^ 8 = 4294967296 := by decide +kernel
        omega
      have HV := hid hv
      obtain ⟨n, hn0⟩ : ∃ n, fh (l.take 8) = n := ⟨_, rfl⟩
      rw [hn0] at HF ⊢
      clear hv hlt2 hn0
      go_wp2_with fail
      go_ret2
      exact ⟨⟨n, _, rfl, by rw [HF.out]; exact HV.out, .inl ⟨HALL.out, HF.out, rfl⟩⟩, HBW.out⟩
end Walk
end Go.Proofs.YtimablpgikebgaaDoor
