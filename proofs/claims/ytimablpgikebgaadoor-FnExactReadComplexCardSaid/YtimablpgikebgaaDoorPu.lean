/- Hexadecimal numerals, the plain law. No program in it. -/
import Derived.Test.YtimablpgikebgaaDoorVu2
namespace Go.Proofs.YtimablpgikebgaaDoor
namespace Walk
/-- A digit as the reference writes it. -/
def low16 (c : UInt8) : Bool := decide (48 ≤ c.toNat ∧ c.toNat ≤ 57) || decide (97 ≤ c.toNat ∧ c.toNat ≤ 102)
theorem low_fin : ∀ i : Fin 256, low16 (UInt8.ofNat i.val) = true → hd (UInt8.ofNat i.val) < 16 ∧ hexG (hd (UInt8.ofNat i.val)) = UInt8.ofNat i.val ∧ (hd (UInt8.ofNat i.val) = if 48 ≤ i.val ∧ i.val ≤ 57 then i.val - 48 else i.val - 87) := by decide +kernel
theorem low_hd {c : UInt8} (h : low16 c = true) : hd c < 16 ∧ hexG (hd c) = c ∧ (hd c = if 48 ≤ c.toNat ∧ c.toNat ≤ 57 then c.toNat - 48 else c.toNat - 87) := by
  have := low_fin ⟨c.toNat, c.toNat_lt⟩
  simpa using this (by simpa using h)
theorem hexG_fin : ∀ d : Fin 16, low16 (hexG d.val) = true ∧ hd (hexG d.val) = d.val := by decide +kernel
theorem hexW_low : ∀ k u, ∀ c ∈ hexW k u, low16 c = true
  | 0, _, c, h => by simp [hexW] at h
  | k + 1, u, c, h => by
    rcases List.mem_append.1 (show c ∈ hexW k (u / 16) ++ [hexG (u % 16)] from h) with h | h
    · exact hexW_low k _ c h
    · rw [List.mem_singleton.1 h]
      exact (hexG_fin ⟨u % 16, Nat.mod_lt _ (by decide)⟩).1
theorem fh_snoc (l : List UInt8) (c : UInt8) : fh (l ++ [c]) = 16 * fh l + hd c := by
  unfold fh
  rw [List.foldl_append]
  rfl
theorem fh_hexW : ∀ k u, u < 16 ^ k → fh (hexW k u) = u
  | 0, u, h => by
    have : u = 0 := by simpa using h
    subst this
    rfl
  | k + 1, u, h => by
    show fh (hexW k (u / 16) ++ [hexG (u % 16)]) = u
    rw [fh_snoc, fh_hexW k (u / 16) (by rw [Nat.pow_succ] at h; exact Nat.div_lt_of_lt_mul (by omega)), (hexG_fin ⟨u % 16, Nat.mod_lt _ (by decide)⟩).2]
    show 16 * (u / 16) + u % 16 = u
    omega
theorem hexW_fh (k : Nat) : ∀ (l : List UInt8), l.length = k → (∀ c ∈ l, low16 c = true) → hexW k (fh l) = l := by
  induction k with
  | zero => intro l hl _; rw [List.eq_nil_of_length_eq_zero hl]; rfl
  | succ k ih =>
    intro l hl h
    obtain ⟨i, c, rfl⟩ : ∃ i c, l = i ++ [c] := ⟨l.dropLast, l.getLast (by intro e; rw [e] at hl; cases hl), (List.dropLast_concat_getLast _).symm⟩
    have hi : i.length = k := by simpa using hl
    obtain ⟨h1, h2, -⟩ := low_hd (h c (by simp))
    show hexW k (fh (i ++ [c]) / 16) ++ [hexG (fh (i ++ [c]) % 16)] = i ++ [c]
    rw [fh_snoc, show (16 * fh i + hd c) / 16 = fh i by omega, show (16 * fh i + hd c) % 16 = hd c by omega, h2, ih i hi (fun x hx => h x (by simp [hx]))]
/-- A piece that both readers take. -/
def okP (p : List UInt8) : Bool := decide (p.length = 8) && (hexW 8 (bo (rd p)) == p)
theorem okP_len {p : List UInt8} (h : okP p = true) : p.length = 8 := by
  unfold okP at h
  simp at h
  exact h.1
theorem okP_eq {p : List UInt8} (h : okP p = true) : hexW 8 (bo (rd p)) = p := by
  unfold okP at h
  simp at h
  exact h.2
theorem okP_low {p : List UInt8} (h : okP p = true) : ∀ c ∈ p, low16 c = true := by
  rw [← okP_eq h]
  exact hexW_low 8 _
theorem rd_low {p : List UInt8} (h : ∀ c ∈ p, low16 c = true) : rd p = fh p := by
  unfold rd
  rw [if_pos]
  rw [List.all_eq_true]
  intro c hc
  simpa using (low_hd (h c hc)).1
theorem fh_lt8 {p : List UInt8} (hl : p.length = 8) (h : ∀ c ∈ p, low16 c = true) : fh p < 4294967296 := by
  have := fh_lt p 8 (by omega) (fun j hj => by
    rw [List.getD_eq_getElem?_getD, List.getElem?_eq_getElem (by omega)]
    exact (low_hd (h _ (List.getElem_mem _))).1)
  rw [List.take_of_length_le (by omega)] at this
  have e : (16 : Nat) ^ 8 = 4294967296 := by decide +kernel
  omega
theorem okP_bo {p : List UInt8} (h : okP p = true) : bo (fh p) = fh p := by
  have hl := okP_low h
  have h1 := okP_eq h
  rw [rd_low hl] at h1
  have h2 := fh_hexW 8 (bo (fh p)) (by
    have := bo_lt (fh_lt8 (okP_len h) hl)
    have e : (16 : Nat) ^ 8 = 4294967296 := by decide +kernel
    omega)
  rw [h1] at h2
  exact h2.symm
theorem okP_of {p : List UInt8} (hl : p.length = 8) (h : ∀ c ∈ p, low16 c = true) (hb : bo (fh p) = fh p) : okP p = true := by
  unfold okP
  rw [rd_low h, hb, hexW_fh 8 p hl h]
  simp [hl]
theorem join_cut (l : List UInt8) : Lib.join (Dec.cutL l) [44] = l := by
  induction l with
  | nil => rfl
  | cons c r ih =>
    unfold Dec.cutL
    split
    · rename_i h
      subst h
      cases hq : Dec.cutL r with
      | nil => have := Dec.cut_pos r; rw [hq] at this; simp at this
      | cons p ps =>
        rw [hq, Lib.join_cons] at ih
        rw [Lib.join_cons, Lib.joinTail]
        simp only [List.map_cons, List.flatten_cons, List.nil_append]
        show [44] ++ p ++ Lib.joinTail [44] ps = 44 :: r
        rw [← ih]
        simp
    · split
      · rename_i hq
        have := Dec.cut_pos r
        rw [hq] at this
        simp at this
      · rename_i p ps hq
        rw [hq, Lib.join_cons] at ih
        rw [Lib.join_cons]
        show c :: (p ++ _) = _
        rw [ih]
theorem cut_join (L : List (List UInt8)) (h : ∀ p ∈ L, ∀ c ∈ p, c ≠ 44) (h0 : L ≠ []) : Dec.cutL (Lib.join L [44]) = L := by
  induction L with
  | nil => exact absurd rfl h0
  | cons p r ih =>
    cases r with
    | nil => rw [Lib.join_one, Dec.cut_end p (h p (by simp))]
    | cons q s =>
      have := ih (fun x hx => h x (by simp [hx])) (by simp)
      rw [Lib.join_cons] at this
      rw [Lib.join_cons]
      have e : Lib.joinTail [44] (q :: s) = 44 :: (q ++ Lib.joinTail [44] s) := by simp [Lib.joinTail]
      rw [e, Dec.cut_comma p _ (h p (by simp)), this]
end Walk
end Go.Proofs.YtimablpgikebgaaDoor
