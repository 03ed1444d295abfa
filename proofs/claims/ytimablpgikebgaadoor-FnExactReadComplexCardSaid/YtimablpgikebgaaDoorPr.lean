/- Reading lists, the plain law: a text cut at its commas. No program in it. -/
import Derived.Test.YtimablpgikebgaaDoorPd
import Derived.Lib.SplitLaws
import Derived.Lib.IndexLaws
import Derived.Lib.IndexBytes
import Derived.Lib.CountLaws
namespace Go.Proofs.YtimablpgikebgaaDoor
namespace Dec
def cutL : List UInt8 → List (List UInt8)
  | [] => [[]]
  | c :: r => if c = 44 then [] :: cutL r else
    match cutL r with
    | [] => [[c]]
    | p :: ps => (c :: p) :: ps
theorem cut_comma (p r : List UInt8) (h : ∀ c ∈ p, c ≠ 44) : cutL (p ++ 44 :: r) = p :: cutL r := by
  induction p with
  | nil => simp [cutL]
  | cons c p ih =>
    have hc : c ≠ 44 := h c (by simp)
    have := ih (fun x hx => h x (by simp [hx]))
    rw [List.cons_append, cutL, if_neg hc, this]
theorem cut_end (p : List UInt8) (h : ∀ c ∈ p, c ≠ 44) : cutL p = [p] := by
  induction p with
  | nil => rfl
  | cons c p ih =>
    have hc : c ≠ 44 := h c (by simp)
    rw [cutL, if_neg hc, ih (fun x hx => h x (by simp [hx]))]
theorem cut_pos (l : List UInt8) : 1 ≤ (cutL l).length := by
  cases l with
  | nil => simp [cutL]
  | cons c r =>
    unfold cutL
    split
    · simp
    · split <;> simp
theorem cut_len (l : List UInt8) : (cutL l).length ≤ l.length + 1 := by
  induction l with
  | nil => simp [cutL]
  | cons c r ih =>
    unfold cutL
    split
    · simpa using ih
    · split
      · simp
      · rename_i p ps hp
        rw [hp] at ih
        simp at ih ⊢
        omega
theorem cut_piece (l : List UInt8) : ∀ p ∈ cutL l, p.length ≤ l.length := by
  induction l with
  | nil => intro p hp; simp [cutL] at hp; subst hp; simp
  | cons c r ih =>
    intro p hp
    unfold cutL at hp
    split at hp
    · rcases List.mem_cons.1 hp with rfl | hp
      · simp
      · have := ih p hp; simp; omega
    · split at hp
      · rcases List.mem_cons.1 hp with rfl | hp
        · simp
        · simp at hp
      · rename_i q qs hq
        rw [hq] at ih
        rcases List.mem_cons.1 hp with rfl | hp
        · have := ih q (by simp); simp; omega
        · have := ih p (by simp [hp]); simp; omega
theorem extract_all (s : ByteArray) (a b : Nat) : (s.extract a b).data.toList = (s.data.toList.take b).drop a := by
  rw [Lib.extract_data, List.drop_take]
def comma : ByteArray := ⟨#[44]⟩
theorem split_cut : ∀ (k : Nat) (s : ByteArray), Lib.countB s comma = k → (Lib.splitB comma 0 k s).map (·.data.toList) = cutL s.data.toList := by
  intro k
  induction k with
  | zero =>
    intro s hk
    rw [Lib.splitB_zero]
    have hi : Lib.indexB s comma = -1 := by
      rcases Lib.index_spec s.data.toList comma.data.toList with ⟨h, _⟩ | ⟨i, h, _⟩
      · exact h
      · have := Lib.countB_hit s comma i (by decide) h
        omega
    have h1 : Lib.indexByte s.data.toList 44 = -1 := by rw [← Lib.index_one]; exact hi
    have hn := Lib.indexByte_none h1
    rw [cut_end s.data.toList]
    · rfl
    · intro c hc e
      subst e
      obtain ⟨j, hj, e⟩ := List.mem_iff_getElem.1 hc
      exact hn j (by rw [List.getElem?_eq_getElem hj, e])
  | succ k ih =>
    intro s hk
    rcases Lib.index_spec s.data.toList comma.data.toList with ⟨h, _⟩ | ⟨i, h, hil, _⟩
    · have := Lib.countB_miss s comma h
      omega
    · have hc := Lib.countB_hit s comma i (by decide) h
      rw [Lib.splitB_hit comma 0 k s i h, List.map_cons, Nat.add_zero]
      have e1 : comma.size = 1 := rfl
      rw [e1] at hc ⊢
      rw [ih _ (by omega), extract_all, extract_all]
      have h1 : Lib.indexByte s.data.toList 44 = (i : Int) := by rw [← Lib.index_one]; exact h
      obtain ⟨g1, g2⟩ := Lib.indexByte_some h1
      obtain ⟨hlt, g3⟩ := List.getElem?_eq_some_iff.1 g1
      have hsz : s.data.toList.take s.size = s.data.toList := List.take_of_length_le (by simp)
      rw [hsz, List.drop_zero]
      have e2 : s.data.toList = s.data.toList.take i ++ 44 :: s.data.toList.drop (i + 1) := by
        conv => lhs; rw [← List.take_append_drop i s.data.toList]
        rw [List.drop_eq_getElem_cons hlt, g3]
      conv => rhs; rw [e2]
      rw [cut_comma]
      intro c hc e
      subst e
      obtain ⟨j, hj, e⟩ := List.mem_iff_getElem.1 hc
      have hj2 : j < i := by have := hj; simp at this; omega
      rw [List.getElem_take] at e
      exact g2 j hj2 (by rw [List.getElem?_eq_getElem (by simp at hj ⊢; omega), e])
theorem split_strs (s : ByteArray) : Lib.splitB comma 0 (Lib.countB s comma) s = (cutL s.data.toList).map fun l => (⟨l.toArray⟩ : ByteArray) := by
  rw [← split_cut _ s rfl, List.map_map]
  conv => lhs; rw [← List.map_id (Lib.splitB comma 0 (Lib.countB s comma) s)]
  refine List.map_congr_left fun x _ => ?_
  obtain ⟨⟨x⟩⟩ := x
  rfl
end Dec
end Go.Proofs.YtimablpgikebgaaDoor
