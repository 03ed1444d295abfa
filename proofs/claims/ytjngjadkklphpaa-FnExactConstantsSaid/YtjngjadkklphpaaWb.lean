/- Walks of the laws on names and check numbers: both ways give what the plain functions isName and chk give. No condition. -/
import Derived.Test.YtjngjadkklphpaaChecked
import Derived.Test.YtjngjadkklphpaaFlo
namespace Go.Proofs.Ytjngjadkklphpaa
open Go.RowKit Flo
namespace TryWalk
/-! ### a name -/
def lowC (c : UInt8) : Bool := decide (97 ≤ (c.toNat : Int)) && decide ((c.toNat : Int) ≤ 122)
def lower (l : List UInt8) : Bool := l.all lowC
def isName (s : ByteArray) : Bool := lower s.data.toList && (decide (1 ≤ (s.size : Int)) && decide ((s.size : Int) ≤ 8))

theorem lower_snoc (l : List UInt8) (c : UInt8) : lower (l ++ [c]) = (lower l && lowC c) := by simp [lower, List.all_append]
theorem take_snoc (s : ByteArray) (k : Nat) (h : k < s.size) : s.data.toList.take (k + 1) = s.data.toList.take k ++ [s[k]] := by
  rw [List.take_succ_eq_append_getElem (by simpa using h)]; rfl
theorem lower_step (s : ByteArray) (k : Nat) (h : k < s.size) (hl : lower (s.data.toList.take k) = true) (h1 : 97 ≤ (s[k].toNat : Int)) (h2 : (s[k].toNat : Int) ≤ 122) : lower (s.data.toList.take (k + 1)) = true := by
  rw [take_snoc s k h, lower_snoc, hl]; simp [lowC]; omega
theorem isName_not (s : ByteArray) (k : Nat) (h : k < s.size) (hc : (s[k].toNat : Int) < 97 ∨ 122 < (s[k].toNat : Int)) : isName s = false := by
  have hk : s[k] ∈ s.data.toList := by
    show s.data[k] ∈ s.data.toList
    simp
  have : lower s.data.toList = false := by
    unfold lower
    rw [List.all_eq_false]
    refine ⟨_, hk, ?_⟩
    simp [lowC]; omega
  simp [isName, this]
theorem isName_end (s : ByteArray) (k : Nat) (hk : k ≤ s.size) (h : ¬ k < s.size) (hl : lower (s.data.toList.take k) = true) : isName s = (decide (1 ≤ (s.size : Int)) && decide ((s.size : Int) ≤ 8)) := by
  have e : s.data.toList.take k = s.data.toList := List.take_of_length_le (by simp; omega)
  rw [e] at hl
  simp [isName, hl]

set_option maxHeartbeats 400000 in
theorem spIsName (s : ByteArray) (w : World) (hs : s.size ≤ maxLen) : Calls Try.prog 18 #[.string s] w fun e w' => e = .returned (.bool (isName s)) ∧ w = w' := by
  unfold maxLen at hs
  go_enter Try.func18, Try.ntmps18
  go_wp2
  go_loop [3] (fun i => ∃ k : Nat, k ≤ s.size ∧ i = .int .i64 k ∧ lower (s.data.toList.take k) = true) (fun i => s.size - (intOf i).toNat)
  case atStart => exact ⟨0, Nat.zero_le _, rfl, rfl⟩
  case round =>
    obtain ⟨k, hk, rfl, hl⟩ := hrel
    have HL := hid hl
    clear hl
    by_cases hlt : k < s.size
    · have HN := hid (isName_not s k hlt)
      go_wp2
      · go_ret
        exact ⟨by rw [HN.out (by omega)]; rfl, rfl⟩
      · go_round
        case rel => exact ⟨k + 1, by omega, by go_num, lower_step s k hlt HL.out (by omega) (by omega)⟩
        case measure => simp [intOf]; omega
      · go_ret
        exact ⟨by rw [HN.out (by omega)]; rfl, rfl⟩
    · have HE := hid (isName_end s k hk hlt HL.out)
      go_wp2
      · go_ret
        exact ⟨by rw [HE.out]; simp; omega, rfl⟩
      · go_ret
        exact ⟨by rw [HE.out]; simp; omega, rfl⟩

set_option maxHeartbeats 400000 in
theorem imIsName (s : ByteArray) (w : World) (hs : s.size ≤ maxLen) : Calls Try.prog 19 #[.string s] w fun e w' => e = .returned (.bool (isName s)) ∧ w = w' := by
  unfold maxLen at hs
  go_enter Try.func19, Try.ntmps19
  go_wp2
  go_loop [6] (fun i => ∃ k : Nat, k ≤ s.size ∧ i = .int .i64 k ∧ lower (s.data.toList.take k) = true) (fun i => s.size - (intOf i).toNat)
  case atStart => exact ⟨0, Nat.zero_le _, rfl, rfl⟩
  case round =>
    obtain ⟨k, hk, rfl, hl⟩ := hrel
    have HL := hid hl
    clear hl
    by_cases hlt : k < s.size
    · have HN := hid (isName_not s k hlt)
      go_wp2
      · go_ret
        exact ⟨by rw [HN.out (by omega)]; rfl, rfl⟩
      · go_round
        case rel => exact ⟨k + 1, by omega, by go_num, lower_step s k hlt HL.out (by omega) (by omega)⟩
        case measure => simp [intOf]; omega
      · go_ret
        exact ⟨by rw [HN.out (by omega)]; rfl, rfl⟩
    · have HE := hid (isName_end s k hk hlt HL.out)
      go_wp2
      · go_ret
        exact ⟨by rw [HE.out]; simp; omega, rfl⟩
      · go_ret
        exact ⟨by rw [HE.out]; simp; omega, rfl⟩
theorem fnExactIsName (s : ByteArray) (w : World) (hs : s.size ≤ maxLen) : Calls Try.prog 7 #[.string s] w fun e w' => e = .returned (.bool true) ∧ Below w.heap.size w w' := by
  have hm : (s.size : Int) ≤ 9223372036854775807 := by unfold maxLen at hs; omega
  by_cases hb : 1048576 < (s.size : Int)
  · go_enter Try.func7, Try.ntmps7
    go_wp2_with fail
    go_ret
    exact ⟨rfl, Below.refl _ _⟩
  · go_enter Try.func7, Try.ntmps7
    go_wp2_with (first | (go_at_call 18; refine (spIsName _ _ hs).mono ?_; rintro e w' ⟨rfl, rfl⟩) | (go_at_call 19; refine (imIsName _ _ hs).mono ?_; rintro e w' ⟨rfl, rfl⟩))
    go_ret
    exact ⟨rfl, Below.refl _ _⟩

theorem fnExactConstants (w : World) : Calls Try.prog 3 #[] w fun e w' => e = .returned (.bool true) ∧ Below w.heap.size w w' := by
  go_enter Try.func3, Try.ntmps3
  go_wp2
  go_ret
  exact ⟨rfl, Below.refl _ _⟩

/-! ### check numbers -/
def chk1 (n : Int) (c : UInt8) : Int := (937 * n + (c.toNat : Int) + 197) % 65003
def chk (n : Int) (l : List UInt8) : Int := l.foldl chk1 n
theorem chk1_range (n : Int) (c : UInt8) : 0 ≤ chk1 n c ∧ chk1 n c ≤ 65002 := by unfold chk1; omega
theorem chk_snoc (n : Int) (l : List UInt8) (c : UInt8) : chk n (l ++ [c]) = chk1 (chk n l) c := by simp [chk]
theorem chk_range (n : Int) (l : List UInt8) (h0 : 0 ≤ n) (h1 : n ≤ 65002) : 0 ≤ chk n l ∧ chk n l ≤ 65002 := by
  induction l generalizing n with
  | nil => exact ⟨h0, h1⟩
  | cons c l ih => exact ih _ (chk1_range n c).1 (chk1_range n c).2
theorem chk_step (n : Int) (s : ByteArray) (k : Nat) (h : k < s.size) : (937 * chk n (s.data.toList.take k) + (s[k].toNat : Int) + 197) % 65003 = chk n (s.data.toList.take (k + 1)) := by
  rw [take_snoc s k h, chk_snoc]; rfl
set_option maxHeartbeats 400000 in
theorem spCheck (n : Int) (s : ByteArray) (w : World) (hs : s.size ≤ maxLen) (h0 : 0 ≤ n) (h1 : n ≤ 65002) : Calls Try.prog 34 #[.int .i64 n, .string s] w fun e w' => e = .returned (.int .i64 (chk n s.data.toList)) ∧ w = w' := by
  unfold maxLen at hs
  go_enter Try.func34, Try.ntmps34
  go_wp2
  go_loop [0, 5] (fun c i => ∃ k : Nat, k ≤ s.size ∧ i = .int .i64 k ∧ c = .int .i64 (chk n (s.data.toList.take k))) (fun _ i => s.size - (intOf i).toNat)
  case atStart => exact ⟨0, Nat.zero_le _, rfl, rfl⟩
  case round =>
    obtain ⟨k, hk, rfl, rfl⟩ := hrel
    by_cases hlt : k < s.size
    · obtain ⟨hc0, hc1⟩ := chk_range n (s.data.toList.take k) h0 h1
      have HS := hid (chk_step n s k hlt)
      have hb : (s[k].toNat : Int) ≤ 255 := by have := s[k].toNat_lt; omega
      generalize chk n (s.data.toList.take k) = c at *
      go_wp2
      go_round
      case rel => exact ⟨k + 1, by omega, by go_num, by rw [HS.out]⟩
      case measure => simp [intOf]; omega
    · have e : s.data.toList.take k = s.data.toList := List.take_of_length_le (by simp; omega)
      have HE := hid e
      clear e
      go_wp2
      go_ret
      exact ⟨by rw [HE.out]; rfl, rfl⟩
set_option maxHeartbeats 400000 in
theorem imCheckOf (n : Int) (s : ByteArray) (w : World) (hs : s.size ≤ maxLen) (h0 : 0 ≤ n) (h1 : n ≤ 65002) : Calls Try.prog 25 #[.int .i64 n, .string s] w fun e w' => e = .returned (.tuple #[.int .i64 (chk n s.data.toList), .bool true]) ∧ w = w' := by
  unfold maxLen at hs
  go_enter Try.func25, Try.ntmps25
  go_wp2
  go_loop [0, 12] (fun c i => ∃ k : Nat, k ≤ s.size ∧ i = .int .i64 k ∧ c = .int .i64 (chk n (s.data.toList.take k))) (fun _ i => s.size - (intOf i).toNat)
  case atStart => exact ⟨0, Nat.zero_le _, rfl, rfl⟩
  case round =>
    obtain ⟨k, hk, rfl, rfl⟩ := hrel
    by_cases hlt : k < s.size
    · obtain ⟨hc0, hc1⟩ := chk_range n (s.data.toList.take k) h0 h1
      have HS := hid (chk_step n s k hlt)
      have hb : (s[k].toNat : Int) ≤ 255 := by have := s[k].toNat_lt; omega
      generalize chk n (s.data.toList.take k) = c at *
      go_wp2
      go_round
      case rel => exact ⟨k + 1, by omega, by go_num, by rw [HS.out]⟩
      case measure => simp [intOf]; omega
    · have e : s.data.toList.take k = s.data.toList := List.take_of_length_le (by simp; omega)
      have HE := hid e
      clear e
      go_wp2
      go_ret2
      exact ⟨by rw [HE.out]; rfl, rfl⟩
theorem fnExactCheckOf (n : Int) (s : ByteArray) (w : World) (_hn : (Lit.int .i64 n).wf = true) (hs : s.size ≤ maxLen) : Calls Try.prog 10 #[.int .i64 n, .string s] w fun e w' => e = .returned (.bool true) ∧ Below w.heap.size w w' := by
  have hm : (s.size : Int) ≤ 9223372036854775807 := by unfold maxLen at hs; omega
  by_cases hb : 1048576 < (s.size : Int)
  · go_enter Try.func10, Try.ntmps10
    go_wp2_with fail
    go_ret
    exact ⟨rfl, Below.refl _ _⟩
  · by_cases h0 : 0 ≤ n
    · by_cases h1 : n ≤ 65002
      · have h24 : ∀ w, Calls Try.prog 24 #[.int .i64 n, .string s] w fun e w' => e = .returned (.tuple #[.int .i64 (chk n s.data.toList), .bool true]) ∧ w = w' := by
          intro w
          go_enter Try.func24, Try.ntmps24
          go_wp2_with (first | (go_at_call 34; refine (spCheck _ _ _ hs h0 h1).mono ?_; rintro e w' ⟨rfl, rfl⟩) | go_in)
          go_ret2
          exact ⟨rfl, rfl⟩
        have H24 := hid h24
        clear h24
        go_enter Try.func10, Try.ntmps10
        go_wp2_with (first | (go_at_call 24; refine (H24.out _).mono ?_; rintro e w' ⟨rfl, rfl⟩) | (go_at_call 25; refine (imCheckOf _ _ _ hs h0 h1).mono ?_; rintro e w' ⟨rfl, rfl⟩))
        go_ret
        exact ⟨rfl, Below.refl _ _⟩
      · go_enter Try.func10, Try.ntmps10
        go_wp2
        go_ret
        exact ⟨rfl, Below.refl _ _⟩
    · go_enter Try.func10, Try.ntmps10
      go_wp2
      go_ret
      exact ⟨rfl, Below.refl _ _⟩
end TryWalk
end Go.Proofs.Ytjngjadkklphpaa
