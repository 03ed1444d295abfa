/- What Go's operations on floats give, as plain functions on bits that take all NaNs for one. No condition. -/
import Derived.WalkKit
import Derived.WalkLawsBesides
import Derived.Deep.Draws
namespace Go.Proofs.Ytlabbakmlanfgaa.Flo
open Go Go.RowKit

/-- A fact that the walk is not to use. -/
theorem hid {p : Prop} (h : p) : Hid p := h

def NaN (k : FloatKind) (x : Nat) : Bool := (k.decode x).isNaN
/-- The same float, or both NaN. -/
def Sim (k : FloatKind) (x y : Nat) : Prop := x = y ∨ (NaN k x = true ∧ NaN k y = true)
def qn : FloatKind → Nat
  | .f32 => 0x7fc00000
  | .f64 => 0x7ff8000000000000
def fop (op : BinOp) (k : FloatKind) (x y : Nat) : Nat := (floatBits op k x y).getD (qn k)
def fneg (k : FloatKind) (x : Nat) : Nat := Op.negFloat k x

theorem Sim.refl (k : FloatKind) (x : Nat) : Sim k x x := .inl rfl
theorem Sim.symm {k : FloatKind} {x y : Nat} (h : Sim k x y) : Sim k y x := h.elim (fun e => .inl e.symm) (fun e => .inr ⟨e.2, e.1⟩)
theorem Sim.trans {k : FloatKind} {x y z : Nat} (h : Sim k x y) (g : Sim k y z) : Sim k x z := by
  rcases h with rfl | ⟨h1, h2⟩
  · exact g
  · rcases g with rfl | ⟨_, g2⟩
    · exact .inr ⟨h1, h2⟩
    · exact .inr ⟨h1, g2⟩
theorem NaN_qn (k : FloatKind) : NaN k (qn k) = true := by cases k <;> decide +kernel
theorem Sim.of_nan {k : FloatKind} {x : Nat} (h : NaN k x = true) : Sim k x (qn k) := .inr ⟨h, NaN_qn k⟩

theorem decode_nan {k : FloatKind} {x : Nat} (h : NaN k x = true) : ∃ s t, k.format.read x = .nan s t := by
  unfold NaN FloatKind.decode at h
  generalize k.format.read x = d at *
  cases d <;> simp [Ieee.Datum.isNaN] at h
  exact ⟨_, _, rfl⟩

/-- A word whose rung lies beyond that of infinity is a NaN. -/
theorem nan_of_rung (k : FloatKind) (x : Nat) (h : k.format.infRung < x % k.format.signWeight) : NaN k x = true := by
  have hb : k.format.binade ≤ k.format.infRung := by cases k <;> decide +kernel
  unfold NaN FloatKind.decode Ieee.Format.read
  simp only
  rw [if_neg (by omega), if_neg (by omega), if_neg (by omega)]
  rfl

theorem cut_nan32 (t : Nat) : NaN .f32 ((t % 2) * 2 ^ 31 + 0x7f800000 + 1 + (t / 2) % (2 ^ 23 - 1)) = true := by
  apply nan_of_rung
  have e1 : FloatKind.f32.format.infRung = 2139095040 := by decide +kernel
  have e2 : FloatKind.f32.format.signWeight = 2147483648 := by decide +kernel
  rw [e1, e2]
  have h1 : (t / 2) % (2 ^ 23 - 1) < 8388607 := Nat.mod_lt _ (by decide)
  generalize (t / 2) % (2 ^ 23 - 1) = m at *
  rcases Nat.mod_two_eq_zero_or_one t with h | h <;> rw [h] <;> omega
theorem cut_nan64 (t : Nat) : NaN .f64 ((t % 2) * 2 ^ 63 + 0x7ff0000000000000 + 1 + (t / 2) % (2 ^ 52 - 1)) = true := by
  apply nan_of_rung
  have e1 : FloatKind.f64.format.infRung = 9218868437227405312 := by decide +kernel
  have e2 : FloatKind.f64.format.signWeight = 9223372036854775808 := by decide +kernel
  rw [e1, e2]
  have h1 : (t / 2) % (2 ^ 52 - 1) < 4503599627370495 := Nat.mod_lt _ (by decide)
  generalize (t / 2) % (2 ^ 52 - 1) = m at *
  rcases Nat.mod_two_eq_zero_or_one t with h | h <;> rw [h] <;> omega
theorem cut_nanBits (k : FloatKind) (x y t : Nat) : NaN k ((Question.nanBits k x y).cut t) = true := by
  cases k
  · exact cut_nan32 t
  · exact cut_nan64 t
theorem cut_nanConv (k : FloatKind) (x t : Nat) : NaN k ((Question.nanConv k x).cut t) = true := by
  cases k
  · exact cut_nan32 t
  · exact cut_nan64 t

/-- The word fits its kind. -/
def Fits (k : FloatKind) (x : Nat) : Prop := x < 2 * k.format.signWeight
theorem fits_of_wf {k : FloatKind} {x : Nat} (h : (Lit.float k x).wf = true) : Fits k x := by
  cases k
  · have e : FloatKind.f32.format.signWeight = 2147483648 := by decide +kernel
    simp [Lit.wf] at h; unfold Fits; rw [e]; omega
  · have e : FloatKind.f64.format.signWeight = 9223372036854775808 := by decide +kernel
    simp [Lit.wf] at h; unfold Fits; rw [e]; omega
theorem wf_of_fits {k : FloatKind} {x : Nat} (h : Fits k x) : (Lit.float k x).wf = true := by
  cases k
  · have e : FloatKind.f32.format.signWeight = 2147483648 := by decide +kernel
    unfold Fits at h; rw [e] at h; simp [Lit.wf]; omega
  · have e : FloatKind.f64.format.signWeight = 9223372036854775808 := by decide +kernel
    unfold Fits at h; rw [e] at h; simp [Lit.wf]; omega
theorem fits64 {x : Nat} (h : Fits .f64 x) : x < 2 ^ 64 := by
  have e : FloatKind.f64.format.signWeight = 9223372036854775808 := by decide +kernel
  unfold Fits at h; rw [e] at h; omega
theorem fits32 {x : Nat} (h : Fits .f32 x) : x < 2 ^ 32 := by
  have e : FloatKind.f32.format.signWeight = 2147483648 := by decide +kernel
  unfold Fits at h; rw [e] at h; omega
theorem fits_cutConv {s k : FloatKind} {x : Nat} (_ne : ¬ s = k) (t : Nat) : Fits k ((Question.floatToFloat x).cut t) := by
  have e1 : FloatKind.f32.format.signWeight = 2147483648 := by decide +kernel
  have e2 : FloatKind.f64.format.signWeight = 9223372036854775808 := by decide +kernel
  have h : (Question.floatToFloat x).cut t = t % 4294967296 := rfl
  have := Nat.mod_lt t (show 0 < 4294967296 by decide)
  rw [h]
  cases k <;> unfold Fits
  · rw [e1]; omega
  · rw [e2]; omega
theorem fits_cut32 (t : Nat) : Fits .f32 ((t % 2) * 2 ^ 31 + 0x7f800000 + 1 + (t / 2) % (2 ^ 23 - 1)) := by
  have e : FloatKind.f32.format.signWeight = 2147483648 := by decide +kernel
  unfold Fits; rw [e]
  have h1 : (t / 2) % (2 ^ 23 - 1) < 8388607 := Nat.mod_lt _ (by decide)
  generalize (t / 2) % (2 ^ 23 - 1) = m at *
  rcases Nat.mod_two_eq_zero_or_one t with h | h <;> rw [h] <;> omega
theorem fits_cut64 (t : Nat) : Fits .f64 ((t % 2) * 2 ^ 63 + 0x7ff0000000000000 + 1 + (t / 2) % (2 ^ 52 - 1)) := by
  have e : FloatKind.f64.format.signWeight = 9223372036854775808 := by decide +kernel
  unfold Fits; rw [e]
  have h1 : (t / 2) % (2 ^ 52 - 1) < 4503599627370495 := Nat.mod_lt _ (by decide)
  generalize (t / 2) % (2 ^ 52 - 1) = m at *
  rcases Nat.mod_two_eq_zero_or_one t with h | h <;> rw [h] <;> omega
theorem fits_nanBits (k : FloatKind) (x y t : Nat) : Fits k ((Question.nanBits k x y).cut t) := by
  cases k
  · exact fits_cut32 t
  · exact fits_cut64 t
theorem fits_nanConv (k : FloatKind) (x t : Nat) : Fits k ((Question.nanConv k x).cut t) := by
  cases k
  · exact fits_cut32 t
  · exact fits_cut64 t

def isArith : BinOp → Bool
  | .add | .sub | .mul | .quo => true
  | _ => false

theorem wpList_do {P : Program} {w : World} {ops : Array Oper} {rest : List Oper} {o : Oper} {a : Act} {Q : Exit → Act → World → Prop} (hw : Region.wanted o (yielded ops a.tmps) = true)
    (h : ∀ K : Act → World → Prop, (∀ a w, wpList P ops Q rest a w → K a w) → o.wp P a w K Q) : wpList P ops Q (o :: rest) a w :=
  wpList_step fun K hK => by rw [if_pos hw]; exact h K hK

theorem run_farith {P : Program} (w : World) (op : BinOp) (hop : isArith op = true) (t : TypeId) (k : FloatKind) (x y : Nat) :
    ∃ r n, (binOp op t (.float k x) (.float k y)).run P w = .ok (.float k r) (w.drewN n) ∧ Sim k r (fop op k x y) ∧ Fits k r := by
  cases h : floatBits op k x y with
  | some r => exact ⟨r, 0, run_float_arith w op t k x y r h, by simp [fop, h, Sim.refl], fits_of_wf (floatBits_wf h)⟩
  | none =>
    refine ⟨(Question.nanBits k x y).cut (w.tape w.drawn (.nanBits k x y)), 1, ?_, ?_, fits_nanBits k x y _⟩
    · cases op <;> simp [isArith] at hop <;> simp [floatBits] at h <;> simp [binOp, Op.floatArith, h, Question.forced, World.drew_is_drewN]
    · simp only [fop, h, Option.getD_none]
      exact Sim.of_nan (cut_nanBits k x y _)

theorem wpList_farith {P : Program} {w : World} {ops : Array Oper} {rest : List Oper} {o : Oper} {a : Act} {Q : Exit → Act → World → Prop} (hgd : Region.wanted o (yielded ops a.tmps) = true)
    (op : BinOp) (t u : TypeId) (X Y : Operand) (ho : o.op = .binOp op t X Y u) (hop : isArith op = true) (k : FloatKind) (x y : Nat) (hx : a.eval X = .float k x) (hy : a.eval Y = .float k y)
    (h : ∀ r n, Sim k r (fop op k x y) → Fits k r → wpList P ops Q rest (a.put o.dst (.float k r)) (w.drewN n)) : wpList P ops Q (o :: rest) a w := by
  refine wpList_do hgd fun K hK => ?_
  obtain ⟨r, n, hr, hs, hb⟩ := run_farith (P := P) w op hop t k x y
  have hguard : ∀ X Y, eqGuard op t X Y (.float k x) (.float k y) = pure () := by
    intro X Y; cases op <;> simp [isArith] at hop <;> rfl
  unfold Oper.wp execOp
  simp only [ho, hx, hy, hguard, Sem.run_bind, Sem.run_pure, Result.andThen_ok, hr]
  exact hK _ _ (h r n hs hb)


/-! ### What does not tell NaNs apart -/
theorem order_nan_left {k : FloatKind} {x y : Nat} (h : NaN k x = true) : k.format.order x y = none := by
  obtain ⟨s, t, e⟩ := decode_nan h
  simp [Ieee.Format.order, e, Ieee.Datum.order]
theorem order_nan_right {k : FloatKind} {x y : Nat} (h : NaN k y = true) : k.format.order x y = none := by
  obtain ⟨s, t, e⟩ := decode_nan h
  simp only [Ieee.Format.order, e]
  cases k.format.read x <;> rfl
theorem order_congr {k : FloatKind} {x x' y y' : Nat} (h : Sim k x x') (g : Sim k y y') : k.format.order x y = k.format.order x' y' := by
  rcases h with rfl | ⟨h1, h2⟩
  · rcases g with rfl | ⟨g1, g2⟩
    · rfl
    · rw [order_nan_right g1, order_nan_right g2]
  · rw [order_nan_left h1, order_nan_left h2]
theorem order_self {k : FloatKind} {x : Nat} (h : NaN k x = false) : k.format.order x x = some .eq := by
  unfold NaN FloatKind.decode at h
  unfold Ieee.Format.order
  generalize k.format.read x = d at *
  cases d with
  | number s m e => simp [Ieee.Datum.order]
  | infinity s => simp [Ieee.Datum.order]
  | nan s t => simp [Ieee.Datum.isNaN] at h
theorem order_self_iff (k : FloatKind) (x : Nat) : (k.format.order x x == some .eq) = !NaN k x := by
  cases h : NaN k x with
  | true => rw [order_nan_left h]; rfl
  | false => rw [order_self h]; rfl
theorem order_self_neq (k : FloatKind) (x : Nat) : (k.format.order x x != some .eq) = NaN k x := by
  rw [bne, order_self_iff]; simp

theorem floatBits_nan_left {op : BinOp} {k : FloatKind} {x y : Nat} (h : NaN k x = true) : floatBits op k x y = none := by
  obtain ⟨s, t, e⟩ := decode_nan h
  cases op <;> simp [floatBits, Ieee.Format.add, Ieee.Format.sub, Ieee.Format.mul, Ieee.Format.div, e, Ieee.Datum.sum, Ieee.Datum.product, Ieee.Datum.quotient]
theorem floatBits_nan_right {op : BinOp} {k : FloatKind} {x y : Nat} (h : NaN k y = true) : floatBits op k x y = none := by
  obtain ⟨s, t, e⟩ := decode_nan h
  cases op <;> simp [floatBits, Ieee.Format.add, Ieee.Format.sub, Ieee.Format.mul, Ieee.Format.div, e, Ieee.Datum.opposite] <;> cases k.format.read x <;> rfl
theorem fop_congr (op : BinOp) {k : FloatKind} {x x' y y' : Nat} (h : Sim k x x') (g : Sim k y y') : fop op k x y = fop op k x' y' := by
  unfold fop
  rcases h with rfl | ⟨h1, h2⟩
  · rcases g with rfl | ⟨g1, g2⟩
    · rfl
    · rw [floatBits_nan_right g1, floatBits_nan_right g2]
  · rw [floatBits_nan_left h1, floatBits_nan_left h2]
theorem Sim.nan {k : FloatKind} {x y : Nat} (h : Sim k x y) : NaN k x = NaN k y := by
  rcases h with rfl | ⟨h1, h2⟩
  · rfl
  · rw [h1, h2]

/-- What an operation gives, as a function of the operands and the world. -/
theorem pick_farith (P : Program) (op : BinOp) (hop : isArith op = true) (k : FloatKind) : ∃ g : Nat → Nat → World → Nat × Nat,
    (∀ x y t w, (binOp op t (.float k x) (.float k y)).run P w = .ok (.float k (g x y w).1) (w.drewN (g x y w).2)) ∧ ∀ x y w, Sim k (g x y w).1 (fop op k x y) ∧ Fits k (g x y w).1 := by
  have h : ∀ p : Nat × Nat × World, ∃ q : Nat × Nat, (binOp op 0 (.float k p.1) (.float k p.2.1)).run P p.2.2 = .ok (.float k q.1) (p.2.2.drewN q.2) ∧ Sim k q.1 (fop op k p.1 p.2.1) ∧ Fits k q.1 := by
    intro p
    obtain ⟨r, n, h1, h2, h3⟩ := run_farith (P := P) p.2.2 op hop 0 k p.1 p.2.1
    exact ⟨(r, n), h1, h2, h3⟩
  obtain ⟨g, hg⟩ := Classical.axiomOfChoice h
  refine ⟨fun x y w => g (x, y, w), fun x y t w => ?_, fun x y w => (hg (x, y, w)).2⟩
  have e : binOp op t (.float k x) (.float k y) = binOp op 0 (.float k x) (.float k y) := by cases op <;> rfl
  rw [e]
  exact (hg (x, y, w)).1

/-- The walk's law, with what the operands are the same as. -/
theorem wpList_fsim {P : Program} {w : World} {ops : Array Oper} {rest : List Oper} {o : Oper} {a : Act} {Q : Exit → Act → World → Prop} (hgd : Region.wanted o (yielded ops a.tmps) = true)
    (op : BinOp) (t u : TypeId) (X Y : Operand) (ho : o.op = .binOp op t X Y u) (hop : isArith op = true) (k : FloatKind) (x y : Nat) (hx : a.eval X = .float k x) (hy : a.eval Y = .float k y)
    {x' y' : Nat} (hx' : Sim k x x') (hy' : Sim k y y')
    (h : ∀ r n, Sim k r (fop op k x' y') → Fits k r → wpList P ops Q rest (a.put o.dst (.float k r)) (w.drewN n)) : wpList P ops Q (o :: rest) a w :=
  wpList_farith hgd op t u X Y ho hop k x y hx hy fun r n hr hb => h r n (by rw [← fop_congr op hx' hy']; exact hr) hb

/-! ### Conversions between the two kinds -/
/-- A finite number whose nearest word of the other kind is an infinity. -/
def over (src : FloatKind) (x : Nat) (dst : FloatKind) : Bool := src != dst && !NaN src x && (floatToFloatBits src x dst).isNone
def fconv (src : FloatKind) (x : Nat) (dst : FloatKind) : Nat := (floatToFloatBits src x dst).getD (qn dst)

theorem run_fconv {P : Program} (w : World) (src dst : TypeId) (s k : FloatKind) (x : Nat) (hfx : Fits s x) (hs : (P.underlying src).isSome = true) (hd : P.underlying dst = some (.float k)) :
    ∃ r n, (convert src dst (.float s x)).run P w = .ok (.float k r) (w.drewN n) ∧ (over s x k = false → Sim k r (fconv s x k)) ∧ Fits k r := by
  cases h : floatToFloatBits s x k with
  | some r => exact ⟨r, 0, run_convert_float_float w src dst s k x r hs hd h, fun _ => by simp [fconv, h, Sim.refl], fits_of_wf (floatToFloatBits_wf (wf_of_fits hfx) h)⟩
  | none =>
    obtain ⟨u, hs'⟩ := Option.isSome_iff_exists.1 hs
    have h0 := h
    unfold floatToFloatBits at h
    split at h
    · cases h
    · rename_i ne
      split at h
      · rename_i sg fr he
        refine ⟨(Question.nanConv k x).cut (w.tape w.drawn (.nanConv k x)), 1, ?_, fun _ => ?_, fits_nanConv k x _⟩
        · cases u <;> simp [convert, run_underlying hs', run_underlying hd, Conv.floatToFloat, ne, he, Question.forced, World.drew_is_drewN]
        · simp only [fconv, h0, Option.getD_none]
          exact Sim.of_nan (cut_nanConv k x _)
      · cases h
      · rename_i sg m e he
        split at h
        · rename_i hi
          refine ⟨(Question.floatToFloat x).cut (w.tape w.drawn (.floatToFloat x)), 1, ?_, fun hov => ?_, fits_cutConv ne _⟩
          · cases u <;> simp [convert, run_underlying hs', run_underlying hd, Conv.floatToFloat, ne, he, hi, Question.forced, World.drew_is_drewN]
          · exfalso
            have hn : NaN s x = false := by simp [NaN, he, Ieee.Datum.isNaN]
            simp [over, ne, hn, h0] at hov
        · cases h

theorem pick_fconv (P : Program) (src dst : TypeId) (s k : FloatKind) (hs : (P.underlying src).isSome = true) (hd : P.underlying dst = some (.float k)) : ∃ g : Nat → World → Nat × Nat,
    ∀ x, Fits s x → ∀ w, (convert src dst (.float s x)).run P w = .ok (.float k (g x w).1) (w.drewN (g x w).2) ∧ (over s x k = false → Sim k (g x w).1 (fconv s x k)) ∧ Fits k (g x w).1 := by
  have h : ∀ p : Nat × World, ∃ q : Nat × Nat, Fits s p.1 → (convert src dst (.float s p.1)).run P p.2 = .ok (.float k q.1) (p.2.drewN q.2) ∧ (over s p.1 k = false → Sim k q.1 (fconv s p.1 k)) ∧ Fits k q.1 := by
    intro p
    by_cases hf : Fits s p.1
    · obtain ⟨r, n, h1, h2, h3⟩ := run_fconv (P := P) p.2 src dst s k p.1 hf hs hd
      exact ⟨(r, n), fun _ => ⟨h1, h2, h3⟩⟩
    · exact ⟨(0, 0), fun h => absurd h hf⟩
  obtain ⟨g, hg⟩ := Classical.axiomOfChoice h
  exact ⟨fun x w => g (x, w), fun x hx w => hg (x, w) hx⟩
theorem wpList_fconv {P : Program} {w : World} {ops : Array Oper} {rest : List Oper} {o : Oper} {a : Act} {Q : Exit → Act → World → Prop} (hgd : Region.wanted o (yielded ops a.tmps) = true)
    (src dst : TypeId) (X : Operand) (ho : o.op = .convert src dst X) (s k : FloatKind) (x : Nat) (hx : a.eval X = .float s x) (hfx : Fits s x) (hs : (P.underlying src).isSome = true) (hd : P.underlying dst = some (.float k))
    (h : ∀ r n, (over s x k = false → Sim k r (fconv s x k)) → Fits k r → wpList P ops Q rest (a.put o.dst (.float k r)) (w.drewN n)) : wpList P ops Q (o :: rest) a w := by
  refine wpList_do hgd fun K hK => ?_
  obtain ⟨r, n, hr, hf, hb⟩ := run_fconv (P := P) w src dst s k x hfx hs hd
  unfold Oper.wp execOp
  simp only [ho, hx, Sem.run_bind, Sem.run_pure, Result.andThen_ok, hr]
  exact hK _ _ (h r n hf hb)

theorem fconv_nan {s k : FloatKind} {x : Nat} (hne : s ≠ k) (h : NaN s x = true) : floatToFloatBits s x k = none := by
  obtain ⟨sg, t, e⟩ := decode_nan h
  simp [floatToFloatBits, hne, FloatKind.decode, e]
theorem fconv_congr {s : FloatKind} (k : FloatKind) {x y : Nat} (h : Sim s x y) (hne : s ≠ k) : fconv s x k = fconv s y k := by
  rcases h with rfl | ⟨h1, h2⟩
  · rfl
  · simp [fconv, fconv_nan hne h1, fconv_nan hne h2]
theorem over_congr {s : FloatKind} (k : FloatKind) {x y : Nat} (h : Sim s x y) : over s x k = over s y k := by
  rcases h with rfl | ⟨h1, h2⟩
  · rfl
  · simp [over, h1, h2]


theorem wpList_fcsim {P : Program} {w : World} {ops : Array Oper} {rest : List Oper} {o : Oper} {a : Act} {Q : Exit → Act → World → Prop} (hgd : Region.wanted o (yielded ops a.tmps) = true)
    (src dst : TypeId) (X : Operand) (ho : o.op = .convert src dst X) (s k : FloatKind) (x : Nat) (hx : a.eval X = .float s x) (hfx : Fits s x) (hs : (P.underlying src).isSome = true) (hd : P.underlying dst = some (.float k)) (hne : s ≠ k)
    {x' : Nat} (hx' : Sim s x x')
    (h : ∀ r n, (over s x' k = false → Sim k r (fconv s x' k)) → Fits k r → wpList P ops Q rest (a.put o.dst (.float k r)) (w.drewN n)) : wpList P ops Q (o :: rest) a w :=
  wpList_fconv hgd src dst X ho s k x hx hfx hs hd fun r n hr hb => h r n (by rw [← over_congr k hx', ← fconv_congr k hx' hne]; exact hr) hb
end Go.Proofs.Ytlabbakmlanfgaa.Flo
