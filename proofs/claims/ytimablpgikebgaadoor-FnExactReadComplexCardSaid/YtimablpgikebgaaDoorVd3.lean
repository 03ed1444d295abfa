/- Decimal numerals read: the reference's reader. No condition. -/
import Derived.Test.YtimablpgikebgaaDoorVd2
import Derived.Test.YtimablpgikebgaaDoorPd
namespace Go.Proofs.YtimablpgikebgaaDoor
open Go.RowKit
set_option linter.unusedVariables false
set_option linter.unusedSimpArgs false
namespace Walk
def inB (lo hi n : Int) : Bool := decide (lo ≤ n) && decide (n ≤ hi)
theorem l00In (n lo hi : Int) (w : World) : Calls Tryd.prog 65 #[.int .i64 n, .int .i64 lo, .int .i64 hi] w fun e w' => e = .returned (.bool (inB lo hi n)) ∧ w' = w := by
  obtain ⟨d, hd⟩ : ∃ d, inB lo hi n = d := ⟨_, rfl⟩
  rw [hd]
  unfold inB at hd
  by_cases h1 : lo ≤ n
  · by_cases h2 : n ≤ hi
    · have h3 : decide (lo ≤ n) = true := by simpa using h1
      have h4 : decide (n ≤ hi) = true := by simpa using h2
      obtain rfl : d = true := by rw [← hd]; simp [h1, h2]
      go_enter Tryd.func65, Tryd.ntmps65
      go_wp2_with fail
      go_ret
      exact ⟨rfl, rfl⟩
    · have h3 : decide (lo ≤ n) = true := by simpa using h1
      have h4 : decide (n ≤ hi) = false := by simpa using h2
      obtain rfl : d = false := by rw [← hd]; simp [h1, h2]
      go_enter Tryd.func65, Tryd.ntmps65
      go_wp2_with fail
      go_ret
      exact ⟨rfl, rfl⟩
  · have h3 : decide (lo ≤ n) = false := by simpa using h1
    obtain rfl : d = false := by rw [← hd]; simp [h1]
    go_enter Tryd.func65, Tryd.ntmps65
    go_wp2_with fail
    go_ret
    exact ⟨rfl, rfl⟩
theorem within (n lo hi : Int) (w : World) : Calls Tryd.prog 72 #[.int .i64 n, .int .i64 lo, .int .i64 hi] w fun e w' => e = .returned (.bool (inB lo hi n)) ∧ w' = w := by
  obtain ⟨d, hd⟩ : ∃ d, inB lo hi n = d := ⟨_, rfl⟩
  rw [hd]
  unfold inB at hd
  by_cases h1 : lo ≤ n
  · by_cases h2 : n ≤ hi
    · have h3 : decide (lo ≤ n) = true := by simpa using h1
      have h4 : decide (n ≤ hi) = true := by simpa using h2
      obtain rfl : d = true := by rw [← hd]; simp [h1, h2]
      go_enter Tryd.func72, Tryd.ntmps72
      go_wp2_with fail
      go_ret
      exact ⟨rfl, rfl⟩
    · have h3 : decide (lo ≤ n) = true := by simpa using h1
      have h4 : decide (n ≤ hi) = false := by simpa using h2
      obtain rfl : d = false := by rw [← hd]; simp [h1, h2]
      go_enter Tryd.func72, Tryd.ntmps72
      go_wp2_with fail
      go_ret
      exact ⟨rfl, rfl⟩
  · have h3 : decide (lo ≤ n) = false := by simpa using h1
    obtain rfl : d = false := by rw [← hd]; simp [h1]
    go_enter Tryd.func72, Tryd.ntmps72
    go_wp2_with fail
    go_ret
    exact ⟨rfl, rfl⟩
theorem isValue (n : Int) (w : World) : Calls Tryd.prog 56 #[.int .i64 n] w fun e w' => e = .returned (.bool (inB (-1000000000000000) 1000000000000000 n)) ∧ w' = w := by
  obtain ⟨d, hd⟩ : ∃ d, inB (-1000000000000000) 1000000000000000 n = d := ⟨_, rfl⟩
  rw [hd]
  go_enter Tryd.func56, Tryd.ntmps56
  go_wp2_with fail
  refine (within n (-1000000000000000) 1000000000000000 w).mono ?_
  rintro e w1 ⟨he, rfl⟩
  rw [hd] at he
  subst he
  go_wp2_with fail
  go_ret
  exact ⟨rfl, rfl⟩
theorem take_add (s : ByteArray) (k : Nat) (h : k < s.size) : Dec.foldV (s.data.toList.take (k + 1)) 0 = Dec.addD (Dec.foldV (s.data.toList.take k) 0) s[k] :=
  Dec.foldV_take s.data.toList k (by simpa using h)
theorem add_dig {n : Nat} {c : UInt8} (h0 : 48 ≤ (c.toNat : Int)) (h1 : (c.toNat : Int) ≤ 57) : (Dec.addD n c : Int) = 10 * (n : Int) + ((c.toNat : Int) - 48) := by
  unfold Dec.addD; rw [if_pos ⟨by omega, by omega⟩]; omega
theorem add_not {n : Nat} {c : UInt8} (h : (c.toNat : Int) < 48 ∨ 57 < (c.toNat : Int)) : Dec.addD n c = n := by
  unfold Dec.addD; rw [if_neg (by omega)]
theorem str_eq {l : List UInt8} {s : ByteArray} : ((⟨l.toArray⟩ : ByteArray) = s) ↔ l = s.data.toList := by
  obtain ⟨⟨d⟩⟩ := s
  constructor
  · intro h; injection h with h; injection h
  · rintro rfl; rfl
theorem beq_yes {t s : ByteArray} (h : t = s) : (t.toList == s.toList) = true := by rw [h]; exact beq_self_eq_true _
theorem beq_no {t s : ByteArray} (h : ¬ t = s) : (t.toList == s.toList) = false := by
  refine beq_eq_false_iff_ne.2 fun e => h ?_
  rw [ByteArray.toList_eq, ByteArray.toList_eq] at e
  obtain ⟨⟨a⟩⟩ := t
  obtain ⟨⟨b⟩⟩ := s
  rw [show a = b from e]
theorem signed_at (s : ByteArray) (h : 0 < s.size) : Dec.signed s.data.toList = if (s[0].toNat : Int) = 45 then -(Dec.foldV s.data.toList 0 : Int) else (Dec.foldV s.data.toList 0 : Int) := by
  obtain ⟨⟨d⟩⟩ := s
  cases d with
  | nil => exact absurd h (by decide)
  | cons c r =>
    show (if (some c : Option UInt8) = some 45 then _ else _) = if ((c.toNat : Nat) : Int) = 45 then _ else _
    by_cases hc : c = 45
    · subst hc; rfl
    · rw [if_neg (by simpa using hc), if_neg]
      intro h2
      exact hc (UInt8.toNat_inj.1 (show c.toNat = (45 : UInt8).toNat by simp; omega))
theorem foldV_all (s : ByteArray) (k : Nat) (h : s.size ≤ k) : Dec.foldV (s.data.toList.take k) 0 = Dec.foldV s.data.toList 0 := by
  rw [List.take_of_length_le (by simpa using h)]
theorem dec_no (s : ByteArray) (m : Int) (hm : Dec.signed s.data.toList = m) (h : m < -1000000000000000 ∨ 1000000000000000 < m ∨ Lib.itoa m ≠ s.data.toList) : Dec.decOf s.data.toList = (0, false) := by
  refine Dec.decOf_not fun k hk => ?_
  have := hk.val
  rw [hm] at this
  subst this
  rcases h with h | h | h
  · have := hk.1.1; omega
  · have := hk.1.2; omega
  · exact h hk.2
theorem dec_yes (s : ByteArray) (m : Int) (h0 : -1000000000000000 ≤ m) (h1 : m ≤ 1000000000000000) (h : Lib.itoa m = s.data.toList) : Dec.decOf s.data.toList = (m, true) := Dec.decOf_of ⟨⟨h0, h1⟩, h⟩
theorem dec_len (s : ByteArray) (h : ¬ (1 ≤ s.size ∧ s.size ≤ 17)) : Dec.decOf s.data.toList = (0, false) := by
  refine Dec.decOf_not fun k hk => h ?_
  have := hk.len
  simpa using this
theorem p16 : (10 : Nat) ^ 16 = 10000000000000000 := by decide +kernel
theorem p17 : (10 : Nat) ^ 17 = 100000000000000000 := by decide +kernel
theorem lt16 {F k : Nat} (hb : F < 10 ^ k) (h : k ≤ 16) : (F : Int) < 10000000000000000 := by
  have hp : 10 ^ k ≤ 10 ^ 16 := Nat.pow_le_pow_right (by decide) h
  rw [p16] at hp
  omega
theorem lt17 {F k : Nat} (hb : F < 10 ^ k) (h : k ≤ 17) : (F : Int) < 100000000000000000 := by
  have hp : 10 ^ k ≤ 10 ^ 17 := Nat.pow_le_pow_right (by decide) h
  rw [p17] at hp
  omega
theorem wr64 {n : Int} (h0 : -9223372036854775808 ≤ n) (h1 : n ≤ 9223372036854775807) : wrap64 n = n := IntWalk.wrap64_in n ⟨h0, h1⟩
theorem ret_dec {s : ByteArray} {m : Int} {b : Bool} (h : Dec.decOf s.data.toList = (m, b)) : Ending.returned (.tuple #[.int .i64 m, .bool b]) = Ending.returned (.tuple #[.int .i64 (Dec.decOf s.data.toList).1, .bool (Dec.decOf s.data.toList).2]) := by rw [h]

set_option maxRecDepth 100000 in
set_option maxHeartbeats 1000000 in
theorem l01Value (s : ByteArray) (hs : s.size ≤ 1048576) (w : World) : Calls Tryd.prog 54 #[.string s] w fun e w' => e = .returned (.tuple #[.int .i64 (Dec.decOf s.data.toList).1, .bool (Dec.decOf s.data.toList).2]) ∧ Below w.heap.size w w' := by
  by_cases hlen : 1 ≤ s.size ∧ s.size ≤ 17
  · obtain ⟨hl1, hl2⟩ := hlen
    go_enter Tryd.func54, Tryd.ntmps54
    go_wp2
    go_loop [4, 5] (fun n i => ∃ k : Nat, k ≤ s.size ∧ i = .int .i64 k ∧ n = .int .i64 (Dec.foldV (s.data.toList.take k) 0 : Nat)) (fun _ i => s.size - (intOf i).toNat)
    case atStart => exact ⟨0, Nat.zero_le _, rfl, rfl⟩
    case round =>
      obtain ⟨k, hk, rfl, rfl⟩ := hrel
      have hb := Dec.foldV_lt s.data.toList k
      by_cases hlt : k < s.size
      · have HS := hid (take_add s k hlt)
        obtain ⟨F, hF⟩ : ∃ F, Dec.foldV (s.data.toList.take k) 0 = F := ⟨_, rfl⟩
        rw [hF] at hb HS ⊢
        have HF := hid (lt16 hb (by omega))
        have hw1 : wrap64 (10 * (F : Int)) = 10 * F := wr64 (by omega) (by have := HF.out; omega)
        have hw2 : wrap64 (10 * (F : Int) + ((s[k].toNat : Int) - 48)) = 10 * F + ((s[k].toNat : Int) - 48) := wr64 (by omega) (by have := HF.out; have := s[k].toNat_lt; omega)
        clear hb hF HF
        go_wp2
        all_goals
          go_round
          case rel => exact ⟨k + 1, by omega, by go_num, by rw [HS.out]; first | (rw [add_dig ‹_› ‹_›]; exact congrArg (Value.int .i64) hw2) | rw [add_not (by omega)]⟩
          case measure => simp [intOf]; omega
      · have HA := hid (foldV_all s k (by omega))
        have HD := hid (signed_at s (by omega))
        obtain ⟨F, hF⟩ : ∃ F, Dec.foldV (s.data.toList.take k) 0 = F := ⟨_, rfl⟩
        rw [hF] at hb HA ⊢
        have HF := hid (lt17 hb (by omega))
        have hw1 : wrap64 (-(F : Int)) = -F := wr64 (by have := HF.out; omega) (by omega)
        clear hb hF HF
        rw [← HA.out] at HD
        have hke : ((k : Int) < (s.size : Int)) = False := by simpa using hlt
        by_cases h45 : (s[0].toNat : Int) = 45
        · have h1 : ((s[0].toNat : Int) == 45) = true := by simpa using h45
          obtain ⟨m, hm⟩ : ∃ m, -(F : Int) = m := ⟨_, rfl⟩
          have HM : Hid (Dec.signed s.data.toList = m) := hid (by rw [HD.out, if_pos h45]; exact hm)
          rw [hm] at hw1
          go_wp2_with fail
          refine (l00In m (-1000000000000000) 1000000000000000 w).mono ?_
          rintro e w1 ⟨he, rfl⟩
          by_cases hin : -1000000000000000 ≤ m ∧ m ≤ 1000000000000000
          · have hI : inB (-1000000000000000) 1000000000000000 m = true := by simp [inB, hin.1, hin.2]
            rw [hI] at he
            subst he
            have HIN := hid hin
            clear hin hI
            go_wp2_with fail
            refine (l01Dec m (by have := HIN.out; omega) (by have := HIN.out; omega) _).mono ?_
            rintro e w2 ⟨he, hb⟩
            have HB := hid hb
            clear hb
            obtain ⟨t, ht⟩ : ∃ t : ByteArray, (⟨(Lib.itoa m).toArray⟩ : ByteArray) = t := ⟨_, rfl⟩
            rw [ht] at he
            subst he
            by_cases heq : t = s
            · have HY := hid (dec_yes s m HIN.out.1 HIN.out.2 (str_eq.1 (ht.trans heq)))
              have hne := beq_yes heq
              clear ht heq
              go_wp2_with fail
              go_ret2
              exact ⟨ret_dec HY.out, HB.out⟩
            · have HN := hid (dec_no s m HM.out (.inr (.inr (fun h => heq (ht.symm.trans (str_eq.2 h))))))
              have hne := beq_no heq
              clear ht heq
              go_wp2_with fail
              go_ret2
              exact ⟨ret_dec HN.out, HB.out⟩
          · have hI : inB (-1000000000000000) 1000000000000000 m = false := by simp [inB]; omega
            rw [hI] at he
            subst he
            have HN := hid (dec_no s m HM.out (by omega))
            clear hin hI
            go_wp2_with fail
            go_ret2
            exact ⟨ret_dec HN.out, Below.refl _ _⟩
        · have h1 : ((s[0].toNat : Int) == 45) = false := by simpa using h45
          obtain ⟨m, hm⟩ : ∃ m, (F : Int) = m := ⟨_, rfl⟩
          have HM : Hid (Dec.signed s.data.toList = m) := hid (by rw [HD.out, if_neg h45]; exact hm)
          go_wp2_with fail
          refine (l00In m (-1000000000000000) 1000000000000000 w).mono ?_
          rintro e w1 ⟨he, rfl⟩
          by_cases hin : -1000000000000000 ≤ m ∧ m ≤ 1000000000000000
          · have hI : inB (-1000000000000000) 1000000000000000 m = true := by simp [inB, hin.1, hin.2]
            rw [hI] at he
            subst he
            have HIN := hid hin
            clear hin hI
            go_wp2_with fail
            refine (l01Dec m (by have := HIN.out; omega) (by have := HIN.out; omega) _).mono ?_
            rintro e w2 ⟨he, hb⟩
            have HB := hid hb
            clear hb
            obtain ⟨t, ht⟩ : ∃ t : ByteArray, (⟨(Lib.itoa m).toArray⟩ : ByteArray) = t := ⟨_, rfl⟩
            rw [ht] at he
            subst he
            by_cases heq : t = s
            · have HY := hid (dec_yes s m HIN.out.1 HIN.out.2 (str_eq.1 (ht.trans heq)))
              have hne := beq_yes heq
              clear ht heq
              go_wp2_with fail
              go_ret2
              exact ⟨ret_dec HY.out, HB.out⟩
            · have HN := hid (dec_no s m HM.out (.inr (.inr (fun h => heq (ht.symm.trans (str_eq.2 h))))))
              have hne := beq_no heq
              clear ht heq
              go_wp2_with fail
              go_ret2
              exact ⟨ret_dec HN.out, HB.out⟩
          · have hI : inB (-1000000000000000) 1000000000000000 m = false := by simp [inB]; omega
            rw [hI] at he
            subst he
            have HN := hid (dec_no s m HM.out (by omega))
            clear hin hI
            go_wp2_with fail
            go_ret2
            exact ⟨ret_dec HN.out, Below.refl _ _⟩
  · have HL := hid (dec_len s hlen)
    by_cases h1 : s.size < 1
    · go_enter Tryd.func54, Tryd.ntmps54
      go_wp2
      go_ret2
      exact ⟨ret_dec HL.out, Below.refl _ _⟩
    · go_enter Tryd.func54, Tryd.ntmps54
      go_wp2
      go_ret2
      exact ⟨ret_dec HL.out, Below.refl _ _⟩
theorem spReadDecimal (s : ByteArray) (hs : s.size ≤ 1048576) (w : World) : Calls Tryd.prog 33 #[.string s] w fun e w' => e = .returned (.tuple #[.int .i64 (Dec.decOf s.data.toList).1, .bool (Dec.decOf s.data.toList).2]) ∧ Below w.heap.size w w' := by
  obtain ⟨r, hr⟩ : ∃ r, Dec.decOf s.data.toList = r := ⟨_, rfl⟩
  have h54 := l01Value s hs w
  rw [hr] at h54 ⊢
  obtain ⟨v, d⟩ := r
  have H54 := hid h54
  clear h54 hr
  go_enter Tryd.func33, Tryd.ntmps33
  go_wp2_with fail
  refine H54.out.mono ?_
  rintro e w1 ⟨rfl, hb⟩
  have HB := hid hb
  clear hb
  go_wp2_with fail
  go_ret2
  exact ⟨rfl, HB.out⟩
end Walk
end Go.Proofs.YtimablpgikebgaaDoor
