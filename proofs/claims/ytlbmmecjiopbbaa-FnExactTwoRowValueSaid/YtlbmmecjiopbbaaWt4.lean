/- Games: the value of two rows: what both sides reckon. No condition. -/
import Derived.Test.YtlbmmecjiopbbaaWt2
namespace Go.Proofs.Ytlbmmecjiopbbaa
open Go.RowKit Flo Sl Pg
set_option linter.unusedVariables false
namespace TryWalk
theorem tryF_pos (V : Int × Int → Int) {cur : Int × Int} (n d : Int) (h : 0 < cur.2) : 0 < (tryF V cur n d).2 := by
  unfold tryF
  split
  · rename_i hc
    split
    · exact (red_good n d hc.1 hc.2.1).2.1
    · exact h
  · exact h
theorem red01 : red 0 1 = (0, 1) := by decide
theorem red11 : red 1 1 = (1, 1) := by decide
theorem tryF_first (V : Int × Int → Int) : tryF V (0, 0) 0 1 = (0, 1) := by
  rw [tryF, red01, if_pos (by decide), if_pos (.inl rfl)]
/-- The best chance of the program, column by column. -/
def curI (V : Int × Int → Int) (a b : Nat → Int) (n : Nat) : Int × Int := ((1, 1) :: imL a b n).foldl (pick V) (0, 1)
def curK (V : Int × Int → Int) (a b : Nat → Int) (k l : Nat) : Int × Int := (imIn a b k l).foldl (pick V) (curI V a b k)
theorem curI_zero (V : Int × Int → Int) (a b : Nat → Int) : tryF V (0, 1) 1 1 = curI V a b 0 := by
  rw [tryF_cand V _ _ _ (by decide), cand, red11, if_pos (by decide)]; rfl
theorem curI_succ (V : Int × Int → Int) (a b : Nat → Int) (n : Nat) : curI V a b (n + 1) = curK V a b n n := by
  rw [curI, curK, curI, imL, List.foldl_cons, List.foldl_cons, List.foldl_append]
theorem curK_zero (V : Int × Int → Int) (a b : Nat → Int) (k : Nat) : curK V a b k 0 = curI V a b k := rfl
theorem curK_succ (V : Int × Int → Int) (a b : Nat → Int) (k l : Nat) (h : 0 < (curK V a b k l).2) : curK V a b k (l + 1) = tryF V (curK V a b k l) (b l - b k) (a k - b k - a l + b l) := by
  rw [tryF_cand V _ _ _ h, curK, imIn, List.foldl_append]; rfl
def RetV5 (c : Int × Int) (r : Int × Int) (d : Bool) (w : World) (e : Ending) (w' : World) : Prop := e = .returned (.tuple #[.int .i64 c.1, .int .i64 c.2, .int .i64 r.1, .int .i64 r.2, .bool d]) ∧ Below w.heap.size w w'
def rowA (xs : List Int) (c : Nat) (k : Nat) : Int := at2 xs c 0 k
def rowB (xs : List Int) (c : Nat) (k : Nat) : Int := at2 xs c 1 k
def twoC (r c : Int) (xs ys : List Int) : Int × Int := if validG r c xs ys && decide (r = 2) then curI (worstV xs c.toNat) (rowA xs c.toNat) (rowB xs c.toNat) c.toNat else (0, 0)
def twoR (r c : Int) (xs ys : List Int) : Int × Int := if validG r c xs ys && decide (r = 2) then red (worstV xs c.toNat (twoC r c xs ys)) (twoC r c xs ys).2 else (0, 0)
def twoD (r c : Int) (xs ys : List Int) : Bool := validG r c xs ys && decide (r = 2)
/-- The reference's chances. -/
def chS (a b : Nat → Int) (c j : Nat) : List (Int × Int) := (0, 1) :: (1, 1) :: spL a b c j
def Fit1 (x : Int × Int) : Prop := 0 ≤ x.1 ∧ x.1 ≤ x.2 ∧ 0 < x.2 ∧ x.2 ≤ 4000
theorem cand_fit {n d : Int} (hd : d.natAbs ≤ 4000) {x : Int × Int} (h : x ∈ cand n d) : Fit1 x := by
  have hg := cand_good h
  unfold cand at h
  split at h
  · rename_i g
    have hx : x = red n d := by simpa using h
    have := red_le n d g.1
    rw [← hx] at this
    have g2 := g.2
    rw [← hx] at g2
    have := hg.2.1
    exact ⟨g2.1, g2.2, hg.2.1, by omega⟩
  · cases h
theorem two_d {xs : List Int} {cn la : Nat} (hT : Two xs cn la) {i k : Nat} (hi : i < cn) (hk : k < cn) : (rowA xs cn i - rowB xs cn i - rowA xs cn k + rowB xs cn k).natAbs ≤ 4000 ∧ (rowB xs cn k - rowB xs cn i).natAbs ≤ 4000 := by
  have h1 := hT.at0 hi
  have h2 := hT.at1 hi
  have h3 := hT.at0 hk
  have h4 := hT.at1 hk
  unfold rowA rowB
  omega
theorem chS_fit {xs : List Int} {cn la : Nat} (hT : Two xs cn la) {j m : Nat} (hj : j < cn) (hm : m ≤ cn - 1 - j) : ∀ x ∈ chS (rowA xs cn) (rowB xs cn) cn j ++ spIn (rowA xs cn) (rowB xs cn) j m, Fit1 x := by
  intro x hx
  rw [List.mem_append] at hx
  rcases hx with hx | hx
  · unfold chS at hx
    rcases List.mem_cons.mp hx with rfl | hx
    · exact ⟨by decide, by decide, by decide, by decide⟩
    rcases List.mem_cons.mp hx with rfl | hx
    · exact ⟨by decide, by decide, by decide, by decide⟩
    obtain ⟨i, q, hi, hq, h⟩ := (mem_spL _ _ _ _ x).mp hx
    exact cand_fit (two_d hT (by omega) (by omega)).1 h
  · obtain ⟨q, hq, h⟩ := (mem_spIn _ _ _ _ x).mp hx
    exact cand_fit (two_d hT (by omega) (by omega)).1 h
theorem chS_fit' {xs : List Int} {cn la : Nat} (hT : Two xs cn la) : ∀ x ∈ chS (rowA xs cn) (rowB xs cn) cn cn, Fit1 x := by
  intro x hx
  unfold chS at hx
  rcases List.mem_cons.mp hx with rfl | hx
  · exact ⟨by decide, by decide, by decide, by decide⟩
  rcases List.mem_cons.mp hx with rfl | hx
  · exact ⟨by decide, by decide, by decide, by decide⟩
  obtain ⟨i, q, hi, hq, h⟩ := (mem_spL _ _ _ _ x).mp hx
  exact cand_fit (two_d hT (by omega) (by omega)).1 h
theorem chS_succ (a b : Nat → Int) (c j : Nat) : chS a b c (j + 1) = chS a b c j ++ spIn a b j (c - 1 - j) := by
  simp [chS, spL]
theorem cand_len (n d : Int) : (cand n d).length ≤ 1 := by unfold cand; split <;> simp
theorem spIn_len (a b : Nat → Int) (i m : Nat) : (spIn a b i m).length ≤ m := by
  induction m with
  | zero => simp [spIn]
  | succ m ih =>
    rw [spIn, List.length_append]
    have := cand_len (b (i + 1 + m) - b i) (a i - b i - a (i + 1 + m) + b (i + 1 + m))
    omega
theorem spL_len (a b : Nat → Int) (c j : Nat) : (spL a b c j).length ≤ j * c := by
  induction j with
  | zero => simp [spL]
  | succ j ih =>
    rw [spL, List.length_append, Nat.succ_mul]
    have := spIn_len a b j (c - 1 - j)
    omega
theorem chS_len (a b : Nat → Int) {c j m : Nat} (hc : c ≤ 6) (hj : j ≤ c) (hm : m ≤ c) : (chS a b c j ++ spIn a b j m).length ≤ 44 := by
  have h1 := spL_len a b c j
  have h2 := spIn_len a b j m
  have h3 : j * c ≤ 36 := Nat.mul_le_mul (Nat.le_trans hj hc) hc
  rw [chS, List.length_append, List.length_cons, List.length_cons]
  omega
theorem pick_fit (V : Int × Int → Int) (M : List (Int × Int)) (b : Int × Int) (hb : Fit1 b) (h : ∀ x ∈ M, Fit1 x) : Fit1 (M.foldl (pick V) b) := by
  induction M generalizing b with
  | nil => exact hb
  | cons x M ih =>
    rw [List.foldl_cons]
    refine ih _ ?_ (fun y hy => h y (List.mem_cons_of_mem _ hy))
    unfold pick
    split
    · exact h x List.mem_cons_self
    · exact hb
/-- The best of the first k + 1 chances. -/
def bestS (V : Int × Int → Int) (a b : Nat → Int) (c k : Nat) : Int × Int := (((1, 1) :: spL a b c c).take k).foldl (pick V) (0, 1)
theorem bestS_succ (V : Int × Int → Int) (a b : Nat → Int) (c k : Nat) (h : k + 1 < (chS a b c c).length) : bestS V a b c (k + 1) = pick V (bestS V a b c k) ((chS a b c c).getD (k + 1) (0, 0)) := by
  have h2 : k < ((1, 1) :: spL a b c c).length := by rw [chS, List.length_cons] at h; omega
  rw [bestS, List.take_succ_eq_append_getElem h2, List.foldl_append]
  simp only [List.foldl_cons, List.foldl_nil]
  congr 1
  rw [chS, List.getD_cons_succ, List.getD_eq_getElem?_getD, List.getElem?_eq_getElem h2]; rfl
theorem bestS_end (V : Int × Int → Int) (a b : Nat → Int) (c k : Nat) (h : k + 1 = (chS a b c c).length) : bestS V a b c k = curI V a b c := by
  have h2 : k = ((1, 1) :: spL a b c c).length := by rw [chS, List.length_cons] at h; omega
  rw [bestS, h2, List.take_length, curI, same_best]
theorem bestS_fit {xs : List Int} {cn la : Nat} (hT : Two xs cn la) (V : Int × Int → Int) (k : Nat) : Fit1 (bestS V (rowA xs cn) (rowB xs cn) cn k) := by
  refine pick_fit V _ _ ⟨by decide, by decide, by decide, by decide⟩ (fun x hx => chS_fit' hT x ?_)
  exact List.mem_cons_of_mem _ (List.mem_of_mem_take hx)
theorem map_getD {α : Type} (f : α → Int) (L : List α) (i : Nat) (z : α) (h : i < L.length) : (L.map f).getD i 0 = f (L.getD i z) := by
  rw [List.getD_eq_getElem?_getD, List.getD_eq_getElem?_getD, List.getElem?_map, List.getElem?_eq_getElem h]; rfl
end TryWalk
end Go.Proofs.Ytlbmmecjiopbbaa
