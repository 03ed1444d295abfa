/- Floats' operations reckoned quickly by the kernel: the same words by plain natural numbers. No condition. -/
import Derived.Test.YtlabbakmlanfgaaFbd
namespace Go.Proofs.Ytlabbakmlanfgaa.Kf
open Go Go.RowKit Iee Ieee Flo
set_option linter.unusedVariables false
set_option linter.unusedSimpArgs false

def kmax (a b : Nat) : Nat := cond (Nat.ble a b) b a
/-- The binary logarithm by halving its digits' number: the kernel is quick at it. -/
def lgS (b p : Nat) (k : Nat → Nat → Nat) (N acc : Nat) : Nat := cond (Nat.ble p N) (k (Nat.shiftRight N b) (Nat.add acc b)) (k N acc)
def klog (N : Nat) : Nat := cond (Nat.ble 340282366920938463463374607431768211456 N) (Nat.log2 N)
  (lgS 64 18446744073709551616 (lgS 32 4294967296 (lgS 16 65536 (lgS 8 256 (lgS 4 16 (lgS 2 4 (lgS 1 2 fun _ acc => acc)))))) N 0)
/-- N / 2^d, to the nearest, ties to even. -/
def cutK (N d : Nat) : Nat :=
  let low := Nat.shiftRight N d
  let r2 := Nat.shiftLeft (Nat.sub N (Nat.shiftLeft low d)) 1
  let gap := Nat.shiftLeft 1 d
  cond (Nat.ble r2 gap) (cond (Nat.beq r2 gap) (Nat.add low (Nat.mod low 2)) low) (Nat.succ low)
/-- The rung nearest to N * 2^(P - 4000). -/
def nearK (fb bn off N P : Nat) : Nat :=
  cond (Nat.beq N 0) 0
    (let L := kmax (Nat.sub (Nat.add P (klog N)) fb) off
     Nat.add (Nat.mul (Nat.sub L off) bn) (cutK (Nat.shiftLeft N (Nat.sub P L)) (Nat.sub L P)))
def kfin (sw inf x : Nat) : Bool := Nat.ble (Nat.succ (Nat.mod x sw)) inf
def ksg (sw x : Nat) : Bool := Nat.beq (Nat.mod (Nat.div x sw) 2) 1
def kmg (bn sw x : Nat) : Nat := let r := Nat.mod x sw; cond (Nat.ble bn r) (Nat.add bn (Nat.mod r bn)) r
def kex (bn sw x : Nat) : Nat := Nat.sub (Nat.div (Nat.mod x sw) bn) 1
def kw (sw inf : Nat) (neg : Bool) (r : Nat) : Nat := let m := cond (Nat.ble r inf) r inf; cond neg (Nat.add sw m) m

theorem ble_d (a b : Nat) : Nat.ble a b = decide (a ≤ b) := by
  cases h : Nat.ble a b
  · have : ¬ a ≤ b := fun g => by rw [Nat.ble_eq_true_of_le g] at h; cases h
    simp [this]
  · have : a ≤ b := Nat.le_of_ble_eq_true h
    simp [this]
theorem beq_d (a b : Nat) : Nat.beq a b = decide (a = b) := by
  cases h : Nat.beq a b
  · have := Nat.ne_of_beq_eq_false h
    simp [this]
  · have := Nat.eq_of_beq_eq_true h
    simp [this]
theorem cond_d {α : Type} (p : Prop) [Decidable p] (a b : α) : cond (decide p) a b = if p then a else b := by
  by_cases h : p <;> simp [h]
theorem shl (a b : Nat) : Nat.shiftLeft a b = a * 2 ^ b := Nat.shiftLeft_eq a b
theorem shr (a b : Nat) : Nat.shiftRight a b = a / 2 ^ b := Nat.shiftRight_eq_div_pow a b
theorem kmax_eq (a b : Nat) : kmax a b = max a b := by
  unfold kmax
  rw [ble_d, cond_d]
  split
  · rw [Nat.max_eq_right (by omega)]
  · rw [Nat.max_eq_left (by omega)]
theorem lg_at (N b : Nat) (h : 2 ^ b ≤ N) : N.log2 = b + (N / 2 ^ b).log2 := by
  have hp := Nat.two_pow_pos b
  have hq : N / 2 ^ b ≠ 0 := by
    have := Nat.div_pos h hp
    omega
  have hN : N ≠ 0 := by omega
  rw [Nat.log2_eq_iff hN]
  have h1 := Nat.log2_self_le hq
  have h2 := @Nat.lt_log2_self (N / 2 ^ b)
  rw [Nat.add_assoc, Nat.pow_add, Nat.pow_add]
  have h3 : 2 ^ b * (N / 2 ^ b) ≤ N := Nat.mul_div_le N (2 ^ b)
  constructor
  · exact Nat.le_trans (Nat.mul_le_mul_left _ h1) h3
  · have h4 : N < 2 ^ b * (N / 2 ^ b + 1) := by
      have := Nat.lt_mul_div_succ N hp
      exact this
    exact Nat.lt_of_lt_of_le h4 (Nat.mul_le_mul_left _ h2)
theorem lgS_ok {b p : Nat} (hp : p = 2 ^ b) {k : Nat → Nat → Nat} (hk : ∀ N acc, N < 2 ^ b → k N acc = acc + N.log2) (N acc : Nat) (hN : N < 2 ^ (b + b)) : lgS b p k N acc = acc + N.log2 := by
  unfold lgS
  rw [ble_d, cond_d, shr, hp]
  split
  · rename_i h
    rw [hk _ _ (by rw [Nat.pow_add] at hN; exact (Nat.div_lt_iff_lt_mul (Nat.two_pow_pos _)).2 hN), lg_at N b h]
    exact Nat.add_assoc ..
  · exact hk _ _ (by omega)
theorem klog_eq (N : Nat) : klog N = Nat.log2 N := by
  unfold klog
  rw [ble_d, cond_d]
  split
  · rfl
  · have h0 : ∀ N acc, N < 2 ^ 1 → (fun _ acc => acc : Nat → Nat → Nat) N acc = acc + N.log2 := by
      intro N acc h
      have : N = 0 ∨ N = 1 := by omega
      rcases this with rfl | rfl
      · rfl
      · rfl
    rw [lgS_ok (by decide) (fun N acc h => lgS_ok (by decide) (fun N acc h => lgS_ok (by decide) (fun N acc h => lgS_ok (by decide) (fun N acc h => lgS_ok (by decide) (fun N acc h => lgS_ok (by decide) (fun N acc h => lgS_ok (by decide) h0 N acc h) N acc h) N acc h) N acc h) N acc h) N acc h) N 0 (by omega), Nat.zero_add]
theorem cutK_eq (neg : Bool) (N d : Nat) : cutK N d = Toward.even.cut neg N d := by
  have hk : cutK N d = (if 2 * (N % 2 ^ d) ≤ 2 ^ d then (if 2 * (N % 2 ^ d) = 2 ^ d then N / 2 ^ d + N / 2 ^ d % 2 else N / 2 ^ d) else N / 2 ^ d + 1) := by
    unfold cutK
    simp only [ble_d, beq_d, cond_d, shl, shr]
    have e : Nat.sub N (N / 2 ^ d * 2 ^ d) = N % 2 ^ d := by
      have := Nat.div_add_mod N (2 ^ d)
      rw [Nat.mul_comm] at this
      show N - N / 2 ^ d * 2 ^ d = _
      omega
    rw [e, Nat.one_mul, Nat.pow_one, Nat.mul_comm (N % 2 ^ d) 2]
    rfl
  rw [hk]
  unfold Toward.cut
  simp only [Nat.shiftLeft_eq, Nat.one_mul]
  have hpos := Nat.two_pow_pos d
  by_cases hd : d ≤ N.log2 + 2
  · rw [Nat.min_eq_left hd]
    generalize N / 2 ^ d = q
    generalize N % 2 ^ d = r
    generalize 2 ^ d = g
    by_cases h1 : g < 2 * r
    · rw [if_neg (by omega)]; simp [h1]
    · rw [if_pos (by omega)]
      by_cases h2 : g = 2 * r
      · rw [if_pos h2.symm]
        subst h2
        rcases Nat.mod_two_eq_zero_or_one q with h | h <;> simp [h]
      · rw [if_neg (by omega)]
        simp [h1, h2]
  · rw [Nat.min_eq_right (by omega)]
    have hlt := @Nat.lt_log2_self N
    have h4 : 2 * N < 2 ^ (N.log2 + 2) := by rw [Nat.pow_succ]; omega
    have h5 : 2 ^ (N.log2 + 2) ≤ 2 ^ d := Nat.pow_le_pow_right (by decide) (by omega)
    have h6 : N < 2 ^ (N.log2 + 2) := by omega
    have h7 : N < 2 ^ d := by omega
    rw [Nat.div_eq_of_lt h6, Nat.mod_eq_of_lt h6, Nat.div_eq_of_lt h7, Nat.mod_eq_of_lt h7]
    generalize 2 ^ (N.log2 + 2) = g at *
    generalize 2 ^ d = g2 at *
    rw [if_pos (by omega), if_neg (by omega)]
    have : ¬ g < 2 * N := by omega
    have h8 : ¬ g = 2 * N := by omega
    simp [this, h8]
theorem nearK_eq (f : Format) (neg : Bool) (N P off : Nat) (hoff : f.leastPlace = (off : Int) - 4000) :
    f.nearest neg N ((P : Int) - 4000) = f.word neg (min (nearK f.fractionBits f.binade off N P) f.infRung) := by
  unfold Format.nearest nearK
  rw [beq_d, cond_d, klog_eq]
  by_cases hN : N = 0
  · rw [if_pos hN, if_pos hN, Nat.zero_min]
  · rw [if_neg hN, if_neg hN]
    simp only
    have hL : max ((P : Int) - 4000 + (N.log2 : Int) - (f.fractionBits : Int)) f.leastPlace = ((kmax (Nat.sub (Nat.add P (Nat.log2 N)) f.fractionBits) off : Nat) : Int) - 4000 := by
      rw [kmax_eq, hoff]
      show max _ _ = ((max (P + Nat.log2 N - f.fractionBits) off : Nat) : Int) - 4000
      omega
    rw [hL, hoff]
    generalize kmax (Nat.sub (Nat.add P (Nat.log2 N)) f.fractionBits) off = L
    have e1 : ((P : Int) - 4000 - ((L : Int) - 4000)).toNat = P - L := by omega
    have e2 : ((L : Int) - 4000 - ((P : Int) - 4000)).toNat = L - P := by omega
    have e3 : ((L : Int) - 4000 - ((off : Int) - 4000)).toNat = L - off := by omega
    rw [e1, e2, e3, cutK_eq neg]
    rfl

/-! ### a kind's numbers -/
structure KC (k : FloatKind) (fb bn sw inf off : Nat) : Prop where
  fb : k.format.fractionBits = fb
  bn : k.format.binade = bn
  sw : k.format.signWeight = sw
  inf : k.format.infRung = inf
  lp : k.format.leastPlace = (off : Int) - 4000
  off : 4000 ≤ 2 * off
theorem kc64 : KC .f64 52 4503599627370496 9223372036854775808 9218868437227405312 2926 := ⟨by decide +kernel, by decide +kernel, by decide +kernel, by decide +kernel, by decide +kernel, by decide⟩
theorem kc32 : KC .f32 23 8388608 2147483648 2139095040 3851 := ⟨by decide +kernel, by decide +kernel, by decide +kernel, by decide +kernel, by decide +kernel, by decide⟩
section
variable {k : FloatKind} {fb bn sw inf off : Nat}
theorem kfin_eq (c : KC k fb bn sw inf off) (x : Nat) : kfin sw inf x = fin k x := by
  unfold kfin fin rung
  rw [ble_d, c.sw, c.inf]
  rfl
theorem ksg_eq (c : KC k fb bn sw inf off) (x : Nat) : ksg sw x = sgn k.format x := by
  unfold ksg sgn
  rw [beq_d, c.sw]
  show decide (x / sw % 2 = 1) = (x / sw % 2 == 1)
  rfl
theorem kmg_eq (c : KC k fb bn sw inf off) (x : Nat) : kmg bn sw x = mg k.format (rung k.format x) := by
  unfold kmg mg rung
  simp only [ble_d, cond_d]
  rw [c.sw, c.bn]
  show (if bn ≤ x % sw then bn + x % sw % bn else x % sw) = _
  by_cases h : bn ≤ x % sw
  · rw [if_pos h, if_neg (by omega)]
  · rw [if_neg h, if_pos (by omega)]
theorem kex_eq (c : KC k fb bn sw inf off) (x : Nat) : kex bn sw x = ex k.format (rung k.format x) := by
  unfold kex ex rung
  rw [c.sw, c.bn]
  show x % sw / bn - 1 = _
  split
  · rename_i h; rw [Nat.div_eq_of_lt h]
  · rfl
theorem kw_eq (c : KC k fb bn sw inf off) (neg : Bool) (r : Nat) : kw sw inf neg r = k.format.word neg (min r k.format.infRung) := by
  unfold kw Format.word
  simp only [ble_d, cond_d]
  rw [c.sw, c.inf]
  have : (if r ≤ inf then r else inf) = min r inf := by
    split
    · rw [Nat.min_eq_left (by omega)]
    · rw [Nat.min_eq_right (by omega)]
  rw [this]
  cases neg <;> rfl
theorem near_c (c : KC k fb bn sw inf off) (neg : Bool) (N P : Nat) : k.format.nearest neg N ((P : Int) - 4000) = kw sw inf neg (nearK fb bn off N P) := by
  rw [nearK_eq k.format neg N P off c.lp, kw_eq c, c.fb, c.bn]
end
def kand (a b : Bool) : Bool := cond a b false
def kmulG (k : FloatKind) (fb bn sw inf off off2 x y : Nat) : Nat :=
  cond (kand (kfin sw inf x) (kfin sw inf y))
    (kw sw inf (xor (ksg sw x) (ksg sw y)) (nearK fb bn off (Nat.mul (kmg bn sw x) (kmg bn sw y)) (Nat.add (Nat.add (kex bn sw x) (kex bn sw y)) off2)))
    (fop .mul k x y)
def kaddC (fb bn sw inf off : Nat) (s t : Bool) (m i n j : Nat) : Nat :=
  let base := cond (Nat.ble i j) i j
  let A := Nat.shiftLeft m (Nat.sub i base)
  let B := Nat.shiftLeft n (Nat.sub j base)
  cond (xor s t)
    (cond (Nat.ble B A) (cond (Nat.beq A B) 0 (kw sw inf s (nearK fb bn off (Nat.sub A B) (Nat.add base off)))) (kw sw inf t (nearK fb bn off (Nat.sub B A) (Nat.add base off))))
    (kw sw inf s (nearK fb bn off (Nat.add A B) (Nat.add base off)))
def kaddG (k : FloatKind) (fb bn sw inf off x y : Nat) : Nat :=
  cond (kand (kfin sw inf x) (kfin sw inf y)) (kaddC fb bn sw inf off (ksg sw x) (ksg sw y) (kmg bn sw x) (kex bn sw x) (kmg bn sw y) (kex bn sw y)) (fop .add k x y)
def ksubG (k : FloatKind) (fb bn sw inf off x y : Nat) : Nat :=
  cond (kand (kfin sw inf x) (kfin sw inf y)) (kaddC fb bn sw inf off (ksg sw x) (not (ksg sw y)) (kmg bn sw x) (kex bn sw x) (kmg bn sw y) (kex bn sw y)) (fop .sub k x y)
def kquoG (k : FloatKind) (fb bn sw inf off x y : Nat) : Nat :=
  let m := kmg bn sw x
  let n := kmg bn sw y
  let more := Nat.sub (Nat.add (Nat.add fb 2) (klog n)) (klog m)
  let down := Nat.succ (Nat.add (kex bn sw y) more)
  cond (kand (kand (kfin sw inf x) (kfin sw inf y)) (kand (Nat.ble 1 n) (Nat.ble down 4000)))
    (let D := Nat.shiftLeft m more
     let q := Nat.div D n
     kw sw inf (xor (ksg sw x) (ksg sw y)) (nearK fb bn off (Nat.add (Nat.mul 2 q) (cond (Nat.beq (Nat.mul q n) D) 0 1)) (Nat.sub (Nat.add (kex bn sw x) 4000) down)))
    (fop .quo k x y)
section
variable {k : FloatKind} {fb bn sw inf off : Nat}
theorem kand_t {a b : Bool} (h : kand a b = true) : a = true ∧ b = true := by
  cases a <;> cases b <;> simp_all [kand]
theorem read_c (c : KC k fb bn sw inf off) {x : Nat} (h : kfin sw inf x = true) : k.format.read x = .number (ksg sw x) (kmg bn sw x) ((off : Int) - 4000 + (kex bn sw x : Nat)) := by
  rw [kfin_eq c] at h
  rw [read_fin (fin_iff.1 h), ksg_eq c, kmg_eq c, kex_eq c, c.lp]
theorem kmul_eq (c : KC k fb bn sw inf off) (off2 : Nat) (h2 : off2 + 4000 = 2 * off) (x y : Nat) : kmulG k fb bn sw inf off off2 x y = fop .mul k x y := by
  unfold kmulG
  cases h : kand (kfin sw inf x) (kfin sw inf y)
  · rfl
  · obtain ⟨hx, hy⟩ := kand_t h
    have e : k.format.mul x y = some (kw sw inf (xor (ksg sw x) (ksg sw y)) (nearK fb bn off (Nat.mul (kmg bn sw x) (kmg bn sw y)) (Nat.add (Nat.add (kex bn sw x) (kex bn sw y)) off2))) := by
      unfold Format.mul
      rw [read_c c hx, read_c c hy, ← near_c c]
      show some (k.format.nearest _ _ _) = _
      congr 2
      show _ = ((kex bn sw x + kex bn sw y + off2 : Nat) : Int) - 4000
      omega
    show _ = (k.format.mul x y).getD (qn k)
    rw [e]
    rfl
theorem kadd_core (c : KC k fb bn sw inf off) (s t : Bool) (m i n j : Nat) : ((Datum.number s m ((off : Int) - 4000 + (i : Nat))).sum (.number t n ((off : Int) - 4000 + (j : Nat)))).map k.format.write = some (kaddC fb bn sw inf off s t m i n j) := by
  unfold Datum.sum kaddC
  simp only [ble_d, cond_d, beq_d, shl]
  have hb : min ((off : Int) - 4000 + (i : Nat)) ((off : Int) - 4000 + (j : Nat)) = (off : Int) - 4000 + ((if i ≤ j then i else j : Nat) : Int) := by
    split <;> omega
  rw [hb]
  obtain ⟨b, hbb⟩ : ∃ b, (if i ≤ j then i else j) = b := ⟨_, rfl⟩
  rw [hbb]
  have e1 : ((off : Int) - 4000 + (i : Nat) - ((off : Int) - 4000 + (b : Int))).toNat = i - b := by omega
  have e2 : ((off : Int) - 4000 + (j : Nat) - ((off : Int) - 4000 + (b : Int))).toNat = j - b := by omega
  rw [e1, e2]
  show some (k.format.nearest _ _ _) = _
  have e3 : (off : Int) - 4000 + (b : Int) = ((b + off : Nat) : Int) - 4000 := by omega
  rw [e3, near_c c]
  unfold signed
  simp only [Nat.shiftLeft_eq]
  show _ = some (cond (xor s t) (if n * 2 ^ (j - b) ≤ m * 2 ^ (i - b) then (if m * 2 ^ (i - b) = n * 2 ^ (j - b) then 0 else kw sw inf s (nearK fb bn off (m * 2 ^ (i - b) - n * 2 ^ (j - b)) (b + off))) else kw sw inf t (nearK fb bn off (n * 2 ^ (j - b) - m * 2 ^ (i - b)) (b + off))) (kw sw inf s (nearK fb bn off (m * 2 ^ (i - b) + n * 2 ^ (j - b)) (b + off))))
  generalize m * 2 ^ (i - b) = A
  generalize n * 2 ^ (j - b) = B
  have hz : kw sw inf false (nearK fb bn off 0 (b + off)) = 0 := by
    have : nearK fb bn off 0 (b + off) = 0 := rfl
    rw [this]
    unfold kw
    simp [ble_d]
  congr 1
  cases s <;> cases t
  · simp only [Bool.false_eq_true, if_false, Bool.xor_self, cond_false]
    have h1 : ((A : Int) + (B : Int)).natAbs = A + B := by omega
    rw [h1]
    congr 1
    split
    · rfl
    · rw [decide_eq_false_iff_not]; omega
  · simp only [Bool.false_eq_true, if_false, if_true, Bool.false_xor, cond_true]
    by_cases hle : B ≤ A
    · rw [if_pos hle]
      by_cases he : A = B
      · subst he
        rw [if_pos rfl]
        have h0 : (A : Int) + -(A : Int) = 0 := by omega
        rw [h0]
        exact hz
      · rw [if_neg he]
        have h1 : ((A : Int) + -(B : Int)).natAbs = A - B := by omega
        have h2 : ¬ (A : Int) + -(B : Int) = 0 := by omega
        have h3 : decide ((A : Int) + -(B : Int) < 0) = false := by rw [decide_eq_false_iff_not]; omega
        rw [h1, if_neg h2, h3]
    · rw [if_neg hle]
      have h1 : ((A : Int) + -(B : Int)).natAbs = B - A := by omega
      have h2 : ¬ (A : Int) + -(B : Int) = 0 := by omega
      have h3 : decide ((A : Int) + -(B : Int) < 0) = true := by rw [decide_eq_true_eq]; omega
      rw [h1, if_neg h2, h3]
  · simp only [Bool.false_eq_true, if_false, if_true, Bool.true_xor, Bool.not_false, cond_true]
    by_cases hle : B ≤ A
    · rw [if_pos hle]
      by_cases he : A = B
      · subst he
        rw [if_pos rfl]
        have h0 : -(A : Int) + (A : Int) = 0 := by omega
        rw [h0]
        exact hz
      · rw [if_neg he]
        have h1 : (-(A : Int) + (B : Int)).natAbs = A - B := by omega
        have h2 : ¬ -(A : Int) + (B : Int) = 0 := by omega
        have h3 : decide (-(A : Int) + (B : Int) < 0) = true := by rw [decide_eq_true_eq]; omega
        rw [h1, if_neg h2, h3]
    · rw [if_neg hle]
      have h1 : (-(A : Int) + (B : Int)).natAbs = B - A := by omega
      have h2 : ¬ -(A : Int) + (B : Int) = 0 := by omega
      have h3 : decide (-(A : Int) + (B : Int) < 0) = false := by rw [decide_eq_false_iff_not]; omega
      rw [h1, if_neg h2, h3]
  · simp only [if_true, Bool.xor_self, cond_false]
    have h1 : (-(A : Int) + -(B : Int)).natAbs = A + B := by omega
    rw [h1]
    congr 1
    split
    · rfl
    · rw [decide_eq_true_eq]; omega
theorem kadd_eq (c : KC k fb bn sw inf off) (x y : Nat) : kaddG k fb bn sw inf off x y = fop .add k x y := by
  unfold kaddG
  cases h : kand (kfin sw inf x) (kfin sw inf y)
  · rfl
  · obtain ⟨hx, hy⟩ := kand_t h
    show _ = (k.format.add x y).getD (qn k)
    unfold Format.add
    rw [read_c c hx, read_c c hy, kadd_core c]
    rfl
theorem ksub_eq (c : KC k fb bn sw inf off) (x y : Nat) : ksubG k fb bn sw inf off x y = fop .sub k x y := by
  unfold ksubG
  cases h : kand (kfin sw inf x) (kfin sw inf y)
  · rfl
  · obtain ⟨hx, hy⟩ := kand_t h
    show _ = (k.format.sub x y).getD (qn k)
    unfold Format.sub
    rw [read_c c hx, read_c c hy]
    unfold Datum.opposite
    simp only
    rw [kadd_core c]
    rfl
theorem kquo_eq (c : KC k fb bn sw inf off) (x y : Nat) : kquoG k fb bn sw inf off x y = fop .quo k x y := by
  unfold kquoG
  simp only [klog_eq]
  cases h : kand (kand (kfin sw inf x) (kfin sw inf y)) (kand (Nat.ble 1 (kmg bn sw y)) (Nat.ble (Nat.succ (Nat.add (kex bn sw y) (Nat.sub (Nat.add (Nat.add fb 2) (Nat.log2 (kmg bn sw y))) (Nat.log2 (kmg bn sw x))))) 4000))
  · rfl
  · obtain ⟨h1, h2⟩ := kand_t h
    obtain ⟨hx, hy⟩ := kand_t h1
    obtain ⟨h3, h4⟩ := kand_t h2
    have h5 := Nat.le_of_ble_eq_true h3
    have h6 := Nat.le_of_ble_eq_true h4
    show _ = (k.format.div x y).getD (qn k)
    unfold Format.div
    rw [read_c c hx, read_c c hy, c.fb]
    unfold Datum.quotient
    simp only
    rw [if_neg (by omega)]
    show _ = (k.format.nearest _ _ _)
    generalize kmg bn sw x = m at *
    generalize kmg bn sw y = n at *
    rw [show Nat.add (Nat.add fb 2) (Nat.log2 n) = fb + 2 + n.log2 from rfl, show ∀ a b, Nat.sub a b = a - b from fun _ _ => rfl] at h6 ⊢
    generalize fb + 2 + n.log2 - m.log2 = more at *
    have hp : (off : Int) - 4000 + (kex bn sw x : Nat) - ((off : Int) - 4000 + (kex bn sw y : Nat)) - (more : Int) - 1 = ((Nat.sub (Nat.add (kex bn sw x) 4000) (Nat.succ (Nat.add (kex bn sw y) more)) : Nat) : Int) - 4000 := by
      show _ = ((kex bn sw x + 4000 - (kex bn sw y + more + 1) : Nat) : Int) - 4000
      have h7 : kex bn sw y + more + 1 ≤ 4000 := h6
      omega
    rw [hp, near_c c]
    show kw _ _ _ (nearK _ _ _ _ _) = _
    have hq : Nat.add (Nat.mul 2 (Nat.div (Nat.shiftLeft m more) n)) (cond (Nat.beq (Nat.mul (Nat.div (Nat.shiftLeft m more) n) n) (Nat.shiftLeft m more)) 0 1) = 2 * (m <<< more / n) + (m <<< more % n != 0).toNat := by
      show 2 * (m <<< more / n) + _ = _
      congr 1
      show cond (Nat.beq (m <<< more / n * n) (m <<< more)) 0 1 = _
      rw [beq_d, cond_d]
      have := Nat.div_add_mod (m <<< more) n
      rw [Nat.mul_comm] at this
      by_cases hr : m <<< more % n = 0
      · rw [if_pos (by omega), hr]; rfl
      · rw [if_neg (by omega)]
        have : (m <<< more % n != 0) = true := by simpa using hr
        rw [this]; rfl
    rw [hq]
end

/-! ### the operations at both kinds -/
def kmul64 (x y : Nat) : Nat := kmulG .f64 52 4503599627370496 9223372036854775808 9218868437227405312 2926 1852 x y
def kadd64 (x y : Nat) : Nat := kaddG .f64 52 4503599627370496 9223372036854775808 9218868437227405312 2926 x y
def ksub64 (x y : Nat) : Nat := ksubG .f64 52 4503599627370496 9223372036854775808 9218868437227405312 2926 x y
def kquo64 (x y : Nat) : Nat := kquoG .f64 52 4503599627370496 9223372036854775808 9218868437227405312 2926 x y
def kmul32 (x y : Nat) : Nat := kmulG .f32 23 8388608 2147483648 2139095040 3851 3702 x y
def kadd32 (x y : Nat) : Nat := kaddG .f32 23 8388608 2147483648 2139095040 3851 x y
def kquo32 (x y : Nat) : Nat := kquoG .f32 23 8388608 2147483648 2139095040 3851 x y
theorem mul64 (x y : Nat) : fop .mul .f64 x y = kmul64 x y := (kmul_eq kc64 _ (by decide) x y).symm
theorem add64 (x y : Nat) : fop .add .f64 x y = kadd64 x y := (kadd_eq kc64 x y).symm
theorem sub64 (x y : Nat) : fop .sub .f64 x y = ksub64 x y := (ksub_eq kc64 x y).symm
theorem quo64 (x y : Nat) : fop .quo .f64 x y = kquo64 x y := (kquo_eq kc64 x y).symm
theorem mul32 (x y : Nat) : fop .mul .f32 x y = kmul32 x y := (kmul_eq kc32 _ (by decide) x y).symm
theorem add32 (x y : Nat) : fop .add .f32 x y = kadd32 x y := (kadd_eq kc32 x y).symm
theorem quo32 (x y : Nat) : fop .quo .f32 x y = kquo32 x y := (kquo_eq kc32 x y).symm
end Go.Proofs.Ytlabbakmlanfgaa.Kf
