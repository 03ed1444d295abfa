/- Games: worse rows. No condition. -/
import Derived.Test.YtlbmmecjiopbbaaWi4
namespace Go.Proofs.Ytlbmmecjiopbbaa
open Go.RowKit Flo Sl Pg
set_option linter.unusedVariables false
attribute [local go_sem ↓] Go.wp_at_zero Go.wp_at_succ
namespace TryWalk
def upto (n : Nat) : List Int := gath (fun _ => true) n
theorem upto_eq (n : Nat) : upto n = (List.range n).map (fun i : Nat => (i : Int)) := by
  have h : (List.range n).filter (fun _ => true) = List.range n := List.filter_eq_self.mpr (fun _ _ => rfl)
  rw [upto, gath_eq, h]
theorem upto_getD {n i : Nat} (h : i < n) : (upto n).getD i 0 = (i : Int) := by rw [upto_eq]; exact range_getD (f := fun i : Nat => (i : Int)) h
theorem upto_len (n : Nat) : (upto n).length = n := by rw [upto_eq]; simp
theorem upto_any (n : Nat) (p : Int → Bool) : (upto n).any p = (List.range n).any (fun i : Nat => p (i : Int)) := by rw [upto_eq, List.any_map]; rfl
theorem any_no {xs : List Int} {p : Int → Bool} (h : ∀ j, j < xs.length → p (xs.getD j 0) = false) : xs.any p = false := by
  rw [List.any_eq_false]
  intro x hx
  obtain ⟨i, hi, rfl⟩ := List.getElem_of_mem hx
  have := h i hi
  rw [List.getD_eq_getElem?_getD, List.getElem?_eq_getElem hi] at this
  simpa using this
theorem any_yes {xs : List Int} {p : Int → Bool} {j : Nat} (hj : j < xs.length) (h : p (xs.getD j 0) = true) : xs.any p = true := by
  rw [List.any_eq_true]
  refine ⟨xs.getD j 0, ?_, h⟩
  rw [List.getD_eq_getElem?_getD, List.getElem?_eq_getElem hj]; exact List.getElem_mem hj
set_option maxHeartbeats 2000000 in
theorem counting (n : Nat) (w : World) (hn : n ≤ 1000) : Calls Try.prog 101 #[.int .i64 n] w fun e w' => ∃ a cap, e = .returned (.slice a n cap) ∧ SlV (Value.int .i64) w' a n (upto n) ∧ Below w.heap.size w w' := by
  go_enter Try.func101, Try.ntmps101
  go_wp2_with fail
  go_loopw [3, 4, 7] (fun v x i wr => ∃ j : Nat, j ≤ n ∧ i = .int .i64 j ∧ wr.ownsRow w.heap.size 2 1 v j ((upto j).map (Value.int .i64)) ∧ Below w.heap.size w wr) (fun _ _ i _ => n - (intOf i).toNat)
  case atStart =>
    refine ⟨0, Nat.zero_le _, rfl, ?_, (Below.refl _ _).alloc (Nat.le_refl _) _⟩
    exact World.ownsRow_made (size := 1) (e := 2) w #[] 0 (Nat.le_refl _) (by unfold maxLen; omega) rfl
  case round =>
    obtain ⟨j, hj, rfl, hown, hbel⟩ := hrel
    have HOWN := hid hown
    have HBEL := hid hbel
    clear hown hbel
    by_cases hlt : j < n
    · go_wp2_with (at_builtin; refine wpList_appI rfl (.tmp 10) (.tmp 12) rfl w _ j (upto j) j rfl HOWN.out HBEL.out (by omega) rfl ?_; intro v' w1 hown1 hb1)
      have HO2 : Hid (w1.ownsRow w.heap.size 2 1 v' (j + 1) ((upto (j + 1)).map (Value.int .i64))) := hid hown1
      have HB2 := hid hb1
      clear hown1 hb1
      go_wp2_with fail
      go_roundw
      case rel => exact ⟨j + 1, by omega, by go_num, HO2.out, HB2.out⟩
      case measure => simp [intOf]; omega
    · obtain rfl : j = n := by omega
      obtain ⟨a', cap', hv, hcap, hob⟩ := OwB.of_row HOWN.out
      subst hv
      go_wp2_with fail
      go_ret
      exact ⟨a', cap', rfl, hob.slv, HBEL.out⟩
set_option maxHeartbeats 2000000 in
theorem idxF127 (k1 k2 : Nat) (a : Option Addr) (len cap : Nat) (xs : List Int) (p : Int → Bool) (w : World) (h : SlV (Value.int .i64) w a len xs) (hl : len ≤ 1000) (HC : ∀ i, i < len → ∀ w', Below w.heap.size w w' → Calls Try.prog 127 #[.int .i64 (xs.getD i 0), .pointer (some ⟨k1, 0, none⟩), .pointer (some ⟨k2, 0, none⟩)] w' (RetD (p (xs.getD i 0)) w')) : Calls Try.prog 125 #[.slice a len cap, .func (.func 127) #[] #[.pointer (some ⟨k1, 0, none⟩), .pointer (some ⟨k2, 0, none⟩)]] w fun e w' => ∃ r : Int, e = .returned (.int .i64 r) ∧ decide (0 ≤ r) = xs.any p ∧ Below w.heap.size w w' := by
  have H := hid h
  have HCC := hid HC
  clear h HC
  go_enter Try.func125, Try.ntmps125
  go_wp2_with fail
  go_loopw [5, 8] (fun x i wr => ∃ j : Nat, j ≤ len ∧ i = .int .i64 j ∧ Below w.heap.size w wr ∧ ∀ m, m < j → p (xs.getD m 0) = false) (fun _ i _ => len - (intOf i).toNat)
  case atStart => exact ⟨0, Nat.zero_le _, rfl, Below.refl _ _, fun _ h => absurd h (Nat.not_lt_zero _)⟩
  case round =>
    obtain ⟨j, hj, rfl, hbel, hall⟩ := hrel
    have HBEL := hid hbel
    have HA := hid hall
    clear hbel hall
    by_cases hlt : j < len
    · obtain ⟨b1, off, rfl, hb1, hc⟩ := (H.out.below HBEL.out).2 (by omega)
      have hd1 : wr.cell? ⟨b1, off + j, none⟩ = some (.int .i64 (xs.getD j 0)) := hc j hlt
      have hcl := HCC.out j hlt wr HBEL.out
      clear hc
      obtain ⟨c, hcc⟩ : ∃ c, p (xs.getD j 0) = c := ⟨_, rfl⟩
      rw [hcc] at hcl
      have HP := hid hcc
      clear hcc
      obtain ⟨x, hx⟩ : ∃ x, xs.getD j 0 = x := ⟨_, rfl⟩
      rw [hx] at hd1 hcl
      have HX := hid hx
      have HCL := hid hcl
      clear hx hcl
      cases c with
      | false =>
        go_wp2_with (go_at_call 127; refine HCL.out.mono ?_; rintro e w1 ⟨rfl, b1⟩; have HB1 := hid (below_to HBEL.out b1); clear b1)
        go_roundw
        case rel => exact ⟨j + 1, by omega, by go_num, HB1.out, fun m hm => by
          rcases Nat.lt_succ_iff_lt_or_eq.mp hm with h | h
          · exact HA.out m h
          · subst h; exact HP.out⟩
        case measure => simp [intOf]; omega
      | true =>
        go_wp2_with (go_at_call 127; refine HCL.out.mono ?_; rintro e w1 ⟨rfl, b1⟩; have HB1 := hid (below_to HBEL.out b1); clear b1)
        go_ret
        exact ⟨(j : Int), rfl, by rw [any_yes (by rw [H.out.1]; exact hlt) HP.out]; simp, HB1.out⟩
    · obtain rfl : j = len := by omega
      go_wp2_with fail
      go_ret
      exact ⟨-1, rfl, by rw [any_no (fun m hm => HA.out m (by rw [← H.out.1]; exact hm))]; rfl, HBEL.out⟩
theorem contF127 (k1 k2 : Nat) (a : Option Addr) (len cap : Nat) (xs : List Int) (p : Int → Bool) (w : World) (h : SlV (Value.int .i64) w a len xs) (hl : len ≤ 1000) (HC : ∀ i, i < len → ∀ w', Below w.heap.size w w' → Calls Try.prog 127 #[.int .i64 (xs.getD i 0), .pointer (some ⟨k1, 0, none⟩), .pointer (some ⟨k2, 0, none⟩)] w' (RetD (p (xs.getD i 0)) w')) : Calls Try.prog 100 #[.slice a len cap, .func (.func 127) #[] #[.pointer (some ⟨k1, 0, none⟩), .pointer (some ⟨k2, 0, none⟩)]] w (RetD (xs.any p) w) := by
  have HI := hid (idxF127 k1 k2 a len cap xs p w h hl HC)
  clear h HC
  obtain ⟨d, hd⟩ : ∃ d, xs.any p = d := ⟨_, rfl⟩
  rw [hd] at HI
  rw [hd]
  clear hd
  go_enter Try.func100, Try.ntmps100
  go_wp2_with fail
  refine HI.out.mono ?_
  rintro e w1 ⟨r, rfl, hr, b1⟩
  have HR := hid hr
  clear hr
  go_wp2_with fail
  go_ret
  exact ⟨by show Ending.returned (.bool (decide (0 ≤ r))) = _; rw [HR.out], b1⟩
set_option maxHeartbeats 2000000 in
theorem idxF128 (k1 k2 k3 : Nat) (a : Option Addr) (len cap : Nat) (xs : List Int) (p : Int → Bool) (w : World) (h : SlV (Value.int .i64) w a len xs) (hl : len ≤ 1000) (HC : ∀ i, i < len → ∀ w', Below w.heap.size w w' → Calls Try.prog 128 #[.int .i64 (xs.getD i 0), .pointer (some ⟨k1, 0, none⟩), .pointer (some ⟨k2, 0, none⟩), .pointer (some ⟨k3, 0, none⟩)] w' (RetD (p (xs.getD i 0)) w')) : Calls Try.prog 125 #[.slice a len cap, .func (.func 128) #[] #[.pointer (some ⟨k1, 0, none⟩), .pointer (some ⟨k2, 0, none⟩), .pointer (some ⟨k3, 0, none⟩)]] w fun e w' => ∃ r : Int, e = .returned (.int .i64 r) ∧ decide (0 ≤ r) = xs.any p ∧ Below w.heap.size w w' := by
  have H := hid h
  have HCC := hid HC
  clear h HC
  go_enter Try.func125, Try.ntmps125
  go_wp2_with fail
  go_loopw [5, 8] (fun x i wr => ∃ j : Nat, j ≤ len ∧ i = .int .i64 j ∧ Below w.heap.size w wr ∧ ∀ m, m < j → p (xs.getD m 0) = false) (fun _ i _ => len - (intOf i).toNat)
  case atStart => exact ⟨0, Nat.zero_le _, rfl, Below.refl _ _, fun _ h => absurd h (Nat.not_lt_zero _)⟩
  case round =>
    obtain ⟨j, hj, rfl, hbel, hall⟩ := hrel
    have HBEL := hid hbel
    have HA := hid hall
    clear hbel hall
    by_cases hlt : j < len
    · obtain ⟨b1, off, rfl, hb1, hc⟩ := (H.out.below HBEL.out).2 (by omega)
      have hd1 : wr.cell? ⟨b1, off + j, none⟩ = some (.int .i64 (xs.getD j 0)) := hc j hlt
      have hcl := HCC.out j hlt wr HBEL.out
      clear hc
      obtain ⟨c, hcc⟩ : ∃ c, p (xs.getD j 0) = c := ⟨_, rfl⟩
      rw [hcc] at hcl
      have HP := hid hcc
      clear hcc
      obtain ⟨x, hx⟩ : ∃ x, xs.getD j 0 = x := ⟨_, rfl⟩
      rw [hx] at hd1 hcl
      have HX := hid hx
      have HCL := hid hcl
      clear hx hcl
      cases c with
      | false =>
        go_wp2_with (go_at_call 128; refine HCL.out.mono ?_; rintro e w1 ⟨rfl, b1⟩; have HB1 := hid (below_to HBEL.out b1); clear b1)
        go_roundw
        case rel => exact ⟨j + 1, by omega, by go_num, HB1.out, fun m hm => by
          rcases Nat.lt_succ_iff_lt_or_eq.mp hm with h | h
          · exact HA.out m h
          · subst h; exact HP.out⟩
        case measure => simp [intOf]; omega
      | true =>
        go_wp2_with (go_at_call 128; refine HCL.out.mono ?_; rintro e w1 ⟨rfl, b1⟩; have HB1 := hid (below_to HBEL.out b1); clear b1)
        go_ret
        exact ⟨(j : Int), rfl, by rw [any_yes (by rw [H.out.1]; exact hlt) HP.out]; simp, HB1.out⟩
    · obtain rfl : j = len := by omega
      go_wp2_with fail
      go_ret
      exact ⟨-1, rfl, by rw [any_no (fun m hm => HA.out m (by rw [← H.out.1]; exact hm))]; rfl, HBEL.out⟩
theorem contF128 (k1 k2 k3 : Nat) (a : Option Addr) (len cap : Nat) (xs : List Int) (p : Int → Bool) (w : World) (h : SlV (Value.int .i64) w a len xs) (hl : len ≤ 1000) (HC : ∀ i, i < len → ∀ w', Below w.heap.size w w' → Calls Try.prog 128 #[.int .i64 (xs.getD i 0), .pointer (some ⟨k1, 0, none⟩), .pointer (some ⟨k2, 0, none⟩), .pointer (some ⟨k3, 0, none⟩)] w' (RetD (p (xs.getD i 0)) w')) : Calls Try.prog 100 #[.slice a len cap, .func (.func 128) #[] #[.pointer (some ⟨k1, 0, none⟩), .pointer (some ⟨k2, 0, none⟩), .pointer (some ⟨k3, 0, none⟩)]] w (RetD (xs.any p) w) := by
  have HI := hid (idxF128 k1 k2 k3 a len cap xs p w h hl HC)
  clear h HC
  obtain ⟨d, hd⟩ : ∃ d, xs.any p = d := ⟨_, rfl⟩
  rw [hd] at HI
  rw [hd]
  clear hd
  go_enter Try.func100, Try.ntmps100
  go_wp2_with fail
  refine HI.out.mono ?_
  rintro e w1 ⟨r, rfl, hr, b1⟩
  have HR := hid hr
  clear hr
  go_wp2_with fail
  go_ret
  exact ⟨by show Ending.returned (.bool (decide (0 ≤ r))) = _; rw [HR.out], b1⟩
set_option maxHeartbeats 2000000 in
theorem idxF102 (k1 k2 : Nat) (a : Option Addr) (len cap : Nat) (xs : List Int) (p : Int → Bool) (w : World) (h : SlV (Value.int .i64) w a len xs) (hl : len ≤ 1000) (HC : ∀ i, i < len → ∀ w', Below w.heap.size w w' → Calls Try.prog 102 #[.int .i64 (xs.getD i 0), .pointer (some ⟨k1, 0, none⟩), .pointer (some ⟨k2, 0, none⟩)] w' (RetD (p (xs.getD i 0)) w')) : Calls Try.prog 125 #[.slice a len cap, .func (.func 102) #[] #[.pointer (some ⟨k1, 0, none⟩), .pointer (some ⟨k2, 0, none⟩)]] w fun e w' => ∃ r : Int, e = .returned (.int .i64 r) ∧ decide (0 ≤ r) = xs.any p ∧ Below w.heap.size w w' := by
  have H := hid h
  have HCC := hid HC
  clear h HC
  go_enter Try.func125, Try.ntmps125
  go_wp2_with fail
  go_loopw [5, 8] (fun x i wr => ∃ j : Nat, j ≤ len ∧ i = .int .i64 j ∧ Below w.heap.size w wr ∧ ∀ m, m < j → p (xs.getD m 0) = false) (fun _ i _ => len - (intOf i).toNat)
  case atStart => exact ⟨0, Nat.zero_le _, rfl, Below.refl _ _, fun _ h => absurd h (Nat.not_lt_zero _)⟩
  case round =>
    obtain ⟨j, hj, rfl, hbel, hall⟩ := hrel
    have HBEL := hid hbel
    have HA := hid hall
    clear hbel hall
    by_cases hlt : j < len
    · obtain ⟨b1, off, rfl, hb1, hc⟩ := (H.out.below HBEL.out).2 (by omega)
      have hd1 : wr.cell? ⟨b1, off + j, none⟩ = some (.int .i64 (xs.getD j 0)) := hc j hlt
      have hcl := HCC.out j hlt wr HBEL.out
      clear hc
      obtain ⟨c, hcc⟩ : ∃ c, p (xs.getD j 0) = c := ⟨_, rfl⟩
      rw [hcc] at hcl
      have HP := hid hcc
      clear hcc
      obtain ⟨x, hx⟩ : ∃ x, xs.getD j 0 = x := ⟨_, rfl⟩
      rw [hx] at hd1 hcl
      have HX := hid hx
      have HCL := hid hcl
      clear hx hcl
      cases c with
      | false =>
        go_wp2_with (go_at_call 102; refine HCL.out.mono ?_; rintro e w1 ⟨rfl, b1⟩; have HB1 := hid (below_to HBEL.out b1); clear b1)
        go_roundw
        case rel => exact ⟨j + 1, by omega, by go_num, HB1.out, fun m hm => by
          rcases Nat.lt_succ_iff_lt_or_eq.mp hm with h | h
          · exact HA.out m h
          · subst h; exact HP.out⟩
        case measure => simp [intOf]; omega
      | true =>
        go_wp2_with (go_at_call 102; refine HCL.out.mono ?_; rintro e w1 ⟨rfl, b1⟩; have HB1 := hid (below_to HBEL.out b1); clear b1)
        go_ret
        exact ⟨(j : Int), rfl, by rw [any_yes (by rw [H.out.1]; exact hlt) HP.out]; simp, HB1.out⟩
    · obtain rfl : j = len := by omega
      go_wp2_with fail
      go_ret
      exact ⟨-1, rfl, by rw [any_no (fun m hm => HA.out m (by rw [← H.out.1]; exact hm))]; rfl, HBEL.out⟩
theorem contF102 (k1 k2 : Nat) (a : Option Addr) (len cap : Nat) (xs : List Int) (p : Int → Bool) (w : World) (h : SlV (Value.int .i64) w a len xs) (hl : len ≤ 1000) (HC : ∀ i, i < len → ∀ w', Below w.heap.size w w' → Calls Try.prog 102 #[.int .i64 (xs.getD i 0), .pointer (some ⟨k1, 0, none⟩), .pointer (some ⟨k2, 0, none⟩)] w' (RetD (p (xs.getD i 0)) w')) : Calls Try.prog 100 #[.slice a len cap, .func (.func 102) #[] #[.pointer (some ⟨k1, 0, none⟩), .pointer (some ⟨k2, 0, none⟩)]] w (RetD (xs.any p) w) := by
  have HI := hid (idxF102 k1 k2 a len cap xs p w h hl HC)
  clear h HC
  obtain ⟨d, hd⟩ : ∃ d, xs.any p = d := ⟨_, rfl⟩
  rw [hd] at HI
  rw [hd]
  clear hd
  go_enter Try.func100, Try.ntmps100
  go_wp2_with fail
  refine HI.out.mono ?_
  rintro e w1 ⟨r, rfl, hr, b1⟩
  have HR := hid hr
  clear hr
  go_wp2_with fail
  go_ret
  exact ⟨by show Ending.returned (.bool (decide (0 ≤ r))) = _; rw [HR.out], b1⟩
theorem allTo_no {p : Nat → Bool} {n q : Nat} (hq : q < n) (h : p q = false) : allTo p n = false := by
  rw [← allTo_eq, List.all_eq_false]
  exact ⟨q, List.mem_range.mpr hq, by rw [h]; simp⟩
theorem allTo_yes {p : Nat → Bool} {n : Nat} (h : ∀ q, q < n → p q = true) : allTo p n = true := by
  rw [← allTo_eq, List.all_eq_true]
  intro q hq
  exact h q (List.mem_range.mp hq)
/-- Row i is worse than row j. -/
def wrsB (xs : List Int) (cn i j : Nat) : Bool := allTo (fun k => decide (at2 xs cn i k < at2 xs cn j k)) cn
def worseB (xs : List Int) (rn cn i : Nat) : Bool := (List.range rn).any (fun j => wrsB xs cn i j)
theorem worseB_im (xs : List Int) (rn cn i : Nat) : (upto rn).any (fun j => !((upto cn).any (fun k => decide (at2 xs cn j.toNat k.toNat ≤ at2 xs cn i k.toNat)))) = worseB xs rn cn i := by
  rw [upto_any, worseB]
  congr 1
  funext j
  rw [upto_any, wrsB, ← allTo_eq, List.not_any_eq_all_not]
  congr 1
  funext k
  simp only [Int.toNat_natCast]
  rw [Bool.eq_iff_iff]
  simp
/-- Two cells of one table: what a comparison of rows i and j in column k wants to know. -/
structure Two (xs : List Int) (w : World) (b1 off la cn i j k : Nat) (z s z2 s2 : Nat) (v1 v2 : Int) : Prop where
  a1 : (i : Int) * (cn : Int) = (z : Int)
  a2 : (z : Int) + (k : Int) = (s : Int)
  a3 : IntKind.i64.wrap (z : Int) = (z : Int)
  a4 : IntKind.i64.wrap (s : Int) = (s : Int)
  a5 : w.cell? ⟨b1, off + s, none⟩ = some (.int .i64 v1)
  a6 : (0 : Int) ≤ (s : Int)
  a7 : (s : Int) < (la : Int)
  d1 : (j : Int) * (cn : Int) = (z2 : Int)
  d2 : (z2 : Int) + (k : Int) = (s2 : Int)
  d3 : IntKind.i64.wrap (z2 : Int) = (z2 : Int)
  d4 : IntKind.i64.wrap (s2 : Int) = (s2 : Int)
  d5 : w.cell? ⟨b1, off + s2, none⟩ = some (.int .i64 v2)
  d6 : (0 : Int) ≤ (s2 : Int)
  d7 : (s2 : Int) < (la : Int)
  c1 : at2 xs cn i k = v1
  c2 : at2 xs cn j k = v2
theorem two {xs : List Int} {w : World} {b1 off la rn cn i j k : Nat} (hr2 : rn ≤ 6) (hc2 : cn ≤ 6) (hla : la = rn * cn) (hc : ∀ i, i < la → w.cell? ⟨b1, off + i, none⟩ = some (.int .i64 (xs.getD i 0))) (hi : i < rn) (hj : j < rn) (hk : k < cn) : ∃ z s z2 s2 v1 v2, Two xs w b1 off la cn i j k z s z2 s2 v1 v2 := by
  have h36 := mul36 hr2 hc2
  have x1 := idx_lt hi hk
  have x2 := idx_lt hj hk
  refine ⟨i * cn, i * cn + k, j * cn, j * cn + k, _, _, by push_cast; rfl, by push_cast; rfl, IntWalk.i64_in _ (by omega), IntWalk.i64_in _ (by omega), hc (i * cn + k) (by omega), by omega, by omega, by push_cast; rfl, by push_cast; rfl, IntWalk.i64_in _ (by omega), IntWalk.i64_in _ (by omega), hc (j * cn + k) (by omega), by omega, by omega, rfl, rfl⟩
set_option maxRecDepth 100000 in
set_option maxHeartbeats 4000000 in
theorem spWorse (rn cn : Nat) (a : Option Addr) (la ca : Nat) (xs : List Int) (b : Option Addr) (lb cb : Nat) (kb i j : Nat) (w : World) (hr2 : rn ≤ 6) (hc2 : cn ≤ 6) (hla : la = rn * cn) (hbox : Box w kb [.int .i64 rn, .int .i64 cn, .slice a la ca, .slice b lb cb]) (h : SlV (Value.int .i64) w a la xs) (hi : i < rn) (hj : j < rn) : Calls Try.prog 126 #[.pointer (some ⟨kb, 0, none⟩), .int .i64 i, .int .i64 j] w (RetB (wrsB xs cn i j) w) := by
  have f0 := (hbox.2 0 _ rfl).1
  have f1 := (hbox.2 1 _ rfl).1
  have f2 := (hbox.2 2 _ rfl).1
  obtain ⟨d, hd⟩ : ∃ d, wrsB xs cn i j = d := ⟨_, rfl⟩
  rw [hd]
  have HD := hid hd
  have HLA := hid hla
  have HS := hid h
  clear hd hbox h hla
  go_enter Try.func126, Try.ntmps126
  go_wp2_with fail
  go_loopw [7] (fun q wr => ∃ p n : Nat, p ≤ cn ∧ q = .int .i64 p ∧ wr = w.drewN n ∧ ∀ m, m < p → decide (at2 xs cn i m < at2 xs cn j m) = true) (fun q _ => cn - (intOf q).toNat)
  case atStart => exact ⟨0, 0, Nat.zero_le _, rfl, rfl, fun _ h => absurd h (Nat.not_lt_zero _)⟩
  case round =>
    obtain ⟨p, n, hp, rfl, rfl, hall⟩ := hrel
    have HA := hid hall
    clear hall
    by_cases hlt : p < cn
    · have hl0 : 0 < la := by
        have := idx_lt hi hlt
        have := HLA.out; omega
      obtain ⟨b1, off, rfl, hb1, hc⟩ := HS.out.2 hl0
      obtain ⟨z, s, z2, s2, v1, v2, T⟩ := two hr2 hc2 HLA.out hc hi hj hlt
      obtain ⟨t1, t2, t3, t4, t5, t6, t7, t8, t9, t10, t11, t12, t13, t14, t15, t16⟩ := T
      have HC1 := hid t15
      have HC2 := hid t16
      clear t15 t16 hc
      by_cases hv : v1 < v2
      · have hv2 : ¬ (v2 ≤ v1) := by omega
        go_wp2_with fail
        go_quiet (fail)
        go_wp2_with fail
        go_roundw
        case rel => exact ⟨p + 1, _, by omega, by go_num, rfl, fun m hm => by
          rcases Nat.lt_succ_iff_lt_or_eq.mp hm with h | h
          · exact HA.out m h
          · subst h; rw [HC1.out, HC2.out]; simpa using hv⟩
        case measure => simp [intOf]; omega
      · have hv2 : v2 ≤ v1 := by omega
        obtain rfl : d = false := by
          rw [← HD.out, wrsB]; exact allTo_no hlt (by rw [HC1.out, HC2.out]; simpa using hv2)
        go_wp2_with fail
        go_quiet (fail)
        go_wp2_with fail
        go_ret
        exact ⟨rfl, _, by first | rfl | exact World.drewN_drewN ..⟩
    · obtain rfl : p = cn := by omega
      obtain rfl : d = true := by rw [← HD.out, wrsB]; exact allTo_yes HA.out
      go_wp2_with fail
      go_ret
      exact ⟨rfl, _, rfl⟩
set_option maxRecDepth 100000 in
set_option maxHeartbeats 4000000 in
theorem spWorse0 (rn cn : Nat) (a : Option Addr) (la ca : Nat) (xs : List Int) (b : Option Addr) (lb cb : Nat) (kb : Nat) (w : World) (hr2 : rn ≤ 6) (hc2 : cn ≤ 6) (hla : la = rn * cn) (hbox : Box w kb [.int .i64 rn, .int .i64 cn, .slice a la ca, .slice b lb cb]) (h : SlV (Value.int .i64) w a la xs) : Calls Try.prog 103 #[.pointer (some ⟨kb, 0, none⟩)] w fun e w' => ∃ v, e = .returned v ∧ w'.ownsRow w.heap.size 2 1 v (gath (worseB xs rn cn) rn).length ((gath (worseB xs rn cn) rn).map (Value.int .i64)) ∧ Below w.heap.size w w' := by
  have HX := hid hbox
  have HS := hid h
  have HLA := hid hla
  obtain ⟨f, hf⟩ : ∃ f, worseB xs rn cn = f := ⟨_, rfl⟩
  rw [hf]
  have HF := hid hf
  clear hbox h hla hf
  go_enter Try.func103, Try.ntmps103
  go_wp2_with fail
  go_loopw [3, 4, 5] (fun v i x wr => ∃ j : Nat, j ≤ rn ∧ i = .int .i64 j ∧ wr.ownsRow w.heap.size 2 1 v (gath f j).length ((gath f j).map (Value.int .i64)) ∧ Below w.heap.size w wr) (fun _ i _ _ => rn - (intOf i).toNat)
  case atStart =>
    refine ⟨0, Nat.zero_le _, rfl, ?_, (Below.refl _ _).alloc (Nat.le_refl _) _⟩
    exact World.ownsRow_made (size := 1) (e := 2) w #[] 0 (Nat.le_refl _) (by unfold maxLen; omega) rfl
  case round =>
    obtain ⟨j, hj, rfl, hown, hbel⟩ := hrel
    have HOWN := hid hown
    have HBEL := hid hbel
    have HBX := hid (HX.out.below hbel)
    have HSR := hid (HS.out.below hbel)
    have f0 := (HBX.out.2 0 _ rfl).1
    obtain ⟨a1, cap1, rfl, hcap, hob⟩ := OwB.of_row hown
    clear hown hbel hob
    have hlen := gath_len f j
    obtain ⟨n, hn⟩ : ∃ n, (gath f j).length = n := ⟨_, rfl⟩
    have hn6 : n ≤ 6 := by omega
    rw [hn] at HOWN
    rw [hn]
    have HN := hid hn
    clear hlen hn
    by_cases hlt : j < rn
    · go_wp2_with fail
      go_loopw [3, 5] (fun v' q w2 => ∃ p m : Nat, p ≤ rn ∧ q = .int .i64 p ∧ w2 = wr.drewN m ∧ v' = .slice a1 n cap1 ∧ ∀ t, t < p → wrsB xs cn j t = false) (fun _ q _ => rn - (intOf q).toNat)
      case atStart => exact ⟨0, 0, Nat.zero_le _, rfl, rfl, rfl, fun _ h => absurd h (Nat.not_lt_zero _)⟩
      case round =>
        obtain ⟨p, m, hp, rfl, rfl, rfl, hall⟩ := hrel
        have HA := hid hall
        clear hall
        by_cases hlp : p < rn
        · have hcl := spWorse rn cn a la ca xs b lb cb kb j p (wr.drewN m) hr2 hc2 HLA.out (HBX.out.dr m) (HSR.out.drewN m) hlt hlp
          obtain ⟨c, hcc⟩ : ∃ c, wrsB xs cn j p = c := ⟨_, rfl⟩
          rw [hcc] at hcl
          have HP := hid hcc
          have HCL := hid hcl
          clear hcc hcl
          cases c with
          | false =>
            go_wp2_with (go_at_call 126; refine HCL.out.mono ?_; rintro e w' ⟨rfl, m2, rfl⟩)
            go_roundw
            case rel => exact ⟨p + 1, m + m2, by omega, by go_num, by first | rfl | exact World.drewN_drewN .., rfl, fun t ht => by
              rcases Nat.lt_succ_iff_lt_or_eq.mp ht with h | h
              · exact HA.out t h
              · subst h; exact HP.out⟩
            case measure => simp [intOf]; omega
          | true =>
            have hg : Hid (gath f (j + 1) = gath f j ++ [(j : Int)]) := hid (by
              rw [gath, if_pos]
              rw [← HF.out, worseB, List.any_eq_true]
              exact ⟨p, List.mem_range.mpr hlp, HP.out⟩)
            go_wp2_with (first | (go_at_call 126; refine HCL.out.mono ?_; rintro e w' ⟨rfl, m2, hw'⟩; have hbw : Below wr.heap.size wr w' := (by rw [hw']; exact below_drewN (below_drewN (Below.refl _ _) _) _); have HOWN3 := hid (row_below HOWN.out hbw); have HBL3 := hid (below_to HBEL.out hbw); clear hbw hw') | (at_builtin; refine wpList_appI rfl (.tmp 27) (.tmp 29) rfl w _ n (gath f j) j rfl HOWN3.out HBL3.out (by omega) rfl ?_; intro v2 w1 hown1 hb1))
            have HO2 : Hid (w1.ownsRow w.heap.size 2 1 v2 (gath f (j + 1)).length ((gath f (j + 1)).map (Value.int .i64))) := hid (by
              rw [hg.out]; simpa [HN.out] using hown1)
            have HB2 := hid hb1
            clear hown1 hb1
            go_wp2_with fail
            go_roundw
            case rel => exact ⟨j + 1, by omega, by go_num, HO2.out, HB2.out⟩
            case measure => simp [intOf]; omega
        · obtain rfl : p = rn := by omega
          have hg : Hid (gath f (j + 1) = gath f j) := hid (by
            rw [gath, if_neg]
            rw [← HF.out, worseB, Bool.not_eq_true, List.any_eq_false]
            intro t ht
            rw [HA.out t (List.mem_range.mp ht)]; simp)
          go_wp2_with fail
          go_roundw
          case rel => exact ⟨j + 1, by omega, by go_num, by rw [hg.out, HN.out]; exact row_below HOWN.out (below_drewN (Below.refl _ _) _), below_drewN HBEL.out _⟩
          case measure => simp [intOf]; omega
    · obtain rfl : j = rn := by omega
      go_wp2_with fail
      go_ret
      exact ⟨_, rfl, by rw [HN.out]; exact HOWN.out, HBEL.out⟩
end TryWalk
end Go.Proofs.Ytlbmmecjiopbbaa
