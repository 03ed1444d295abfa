/- Games: a table in which the second one loses what the first one gains: both sides. No condition. -/
import Derived.Test.YtlbmmecjiopbbaaWi4
import Derived.Maps.AppendAt
import Derived.Laws.AppendOwnNone
import Derived.WalkSpells
import Derived.Deep.AppendLies
import Derived.Deep.RegionHeld3
import Derived.Deep.RegionLaw
import Derived.Deep.DrawnRows
namespace Go.Proofs.Ytlbmmecjiopbbaa
open Go.RowKit Flo Sl Pg
set_option linter.unusedVariables false
set_option linter.unusedSimpArgs false
attribute [local go_sem ↓] Go.wp_at_zero Go.wp_at_succ
namespace TryWalk
theorem OwB.belowB {lo hi : Nat} {w w' : World} {a : Option Addr} {len : Nat} {xs : List Int} (h : OwB lo hi w a len xs) (b : Below hi w w') : OwB lo hi w' a len xs := by
  refine ⟨h.1, fun h0 => ?_⟩
  obtain ⟨k, ha, g1, g2, g3, hc⟩ := h.2 h0
  refine ⟨k, ha, g1, g2, Nat.lt_of_lt_of_le g3 b.size, fun i hi2 => ?_⟩
  have := cell_at (p := ⟨k, i, none⟩) (b.block k g2)
  rw [this.1, this.2]
  exact hc i hi2
theorem OwB.setO {lo hi : Nat} {w : World} {a : Option Addr} {len : Nat} {xs : List Int} (h : OwB lo hi w a len xs) {p : Addr} {v : Value} (hp : hi ≤ p.block) : OwB lo hi (w.setCell p v) a len xs :=
  h.mid (Mid.setCell p v (Nat.le_refl _) (Nat.lt_succ_self _)) (.inl hp)
theorem Box.belowZ {B : Nat} {w w' : World} {k : Nat} {vs : List Value} (h : Box w k vs) (b : Below B w w') (hk : k < B) : Box w' k vs :=
  ⟨Nat.lt_of_lt_of_le h.1 b.size, fun i v hv => ⟨(b.cell (p := ⟨k, i, none⟩) hk).trans (h.2 i v hv).1, (b.frozen (p := ⟨k, i, none⟩) hk).trans (h.2 i v hv).2⟩⟩
theorem row_setO {B : Nat} {w : World} {v : Value} {n : Nat} {xs : List Value} (h : w.ownsRow B 2 1 v n xs) {p : Addr} (u : Value) (hp : p.block < B) : (w.setCell p u).ownsRow B 2 1 v n xs := by
  have hg : w.grownBy (w.setCell p u) (some p.block) := ⟨rfl, rfl, rfl, by simp [World.setCell], fun i hi hne => Below.heap_setCell _ _ _ _ (by intro e; exact hne (by rw [e]))⟩
  refine h.kept hg ?_
  cases hv : v.ownBlock with
  | none => exact .inl rfl
  | some b => right; intro e; cases e; have := (h.lt _ hv).1; omega
def neg1 (x : Int) : Int := IntKind.i64.wrap (-x)
def negs (xs : List Int) : List Int := xs.map neg1
theorem negs_at {xs : List Int} {k : Nat} (h : k < xs.length) : (negs xs).take (k + 1) = (negs xs).take k ++ [neg1 (xs.getD k 0)] := by
  have h2 : k < (negs xs).length := by simpa [negs] using h
  rw [List.take_succ_eq_append_getElem h2, List.getD_eq_getElem?_getD, List.getElem?_eq_getElem h]
  simp [negs]
theorem neg1_in {x : Int} (h : inB (-1000) 1000 x = true) : inB (-1000) 1000 (neg1 x) = true := by
  unfold inB at *
  simp only [decide_eq_true_eq] at *
  have : neg1 x = -x := IntWalk.i64_in _ (by omega)
  rw [this]; omega
theorem negs_gains {z : Int} {xs : List Int} (h : gainsB z xs = true) : gainsB z (negs xs) = true := by
  unfold gainsB at *
  simp only [Bool.and_eq_true, decide_eq_true_eq, List.all_eq_true] at *
  refine ⟨by simpa [negs] using h.1, fun x hx => ?_⟩
  obtain ⟨y, hy, rfl⟩ := List.mem_map.1 hx
  exact neg1_in (h.2 y hy)
theorem validZ (r c : Int) (xs : List Int) : validG r c xs (negs xs) = (inB 1 6 r && inB 1 6 c && gainsB (r * c) xs) := by
  unfold validG
  cases h : gainsB (r * c) xs with
  | false => simp
  | true => rw [negs_gains h, Bool.and_true]
/-- It returns a game of two lists of its own, and a truth value. -/
def RetZ (R C : Int) (n : Nat) (A B : List Int) (D : Bool) (w : World) (e : Ending) (w' : World) : Prop := ∃ a ca b cb m, e = .returned (.tuple #[.agg #[.int .i64 R, .int .i64 C, .slice a n ca, .slice b n cb], .bool D]) ∧ OwB w.heap.size m w' a n A ∧ OwB m w'.heap.size w' b n B ∧ w.heap.size ≤ m ∧ m ≤ w'.heap.size ∧ Below w.heap.size w w'
theorem retZ_no {w w' : World} (b : Below w.heap.size w w') : RetZ 0 0 0 [] [] false w (.returned (.tuple #[.agg #[.int .i64 0, .int .i64 0, .slice none 0 0, .slice none 0 0], .bool false])) w' :=
  ⟨none, 0, none, 0, w.heap.size, rfl, ⟨rfl, fun h => absurd h (Nat.lt_irrefl _)⟩, ⟨rfl, fun h => absurd h (Nat.lt_irrefl _)⟩, Nat.le_refl _, b.size, b⟩
/-- 'out = append(out, j)' on a list that the call made, however long. -/
theorem wpList_appC {wq : World} {ops : Array Oper} {rest : List Oper} {o : Oper} {a : Act} {Q : Exit → Act → World → Prop} (hgd : o.guard = none) (s x : Operand)
    (ho : o.op = .call { callee := .builtin .append, args := #[s, x], argTypes := #[22, 22] }) (B : Nat) (hB : B ≤ wq.heap.size) (v : Value) (n : Nat) (xs : List Int) (j : Int) (hs : a.eval s = v)
    (hown : wq.ownsRow B 2 1 v n (xs.map (Value.int .i64))) (hn : n ≤ 2000000) (hx : a.eval x = .slice (some ⟨wq.heap.size, 0, none⟩) 1 1)
    (h : ∀ v' w1, w1.ownsRow B 2 1 v' (n + 1) ((xs ++ [j]).map (Value.int .i64)) → Below B wq w1 → wpList Try.prog ops Q rest (a.put o.dst v') w1) : wpList Try.prog ops Q (o :: rest) a (wq.alloc (.cells #[.int .i64 j] 2)) := by
  obtain ⟨i0, hi, hz0, hz1, hz2⟩ := info_parts infoI
  refine wpList_append_own _ hgd s x 22 ho B 2 i0 (.int .i64 0) 1 8 Try.underlying22 hi hz0 hz1 hz2 rfl (by decide) v n _ hs (hown.alloc _) ⟨wq.heap.size, 0, none⟩ 1 1 [.int .i64 j] hx rfl (new_cell _ _) (one_int _) (by unfold maxLen; omega) (by omega) (by simp; omega) ?_
  intro v' w1 hown1 hgrow _
  exact h v' w1 (by simpa using hown1) (((Below.refl B wq).alloc hB _).grown hgrow (by simp; omega) (fun q hq => (hown.lt q hq).1))
/-- The same at a step of a region that draws its order. -/
theorem step_appC {wr : World} {ops : Array Oper} {o : Oper} {a : Act} {K : Act → World → Prop} {Q : Exit → Act → World → Prop} {E : Prop} (hgd : o.guard = none) (s x : Operand)
    (ho : o.op = .call { callee := .builtin .append, args := #[s, x], argTypes := #[22, 22] }) (B : Nat) (hB : B ≤ wr.heap.size) (v : Value) (n : Nat) (xs : List Int) (j : Int) (hs : a.eval s = v)
    (hown : wr.ownsRow B 2 1 v n (xs.map (Value.int .i64))) (hn : n ≤ 2000000) (hx : a.eval x = .slice (some ⟨wr.heap.size, 0, none⟩) 1 1)
    (h : ∀ g cap w1, w1.ownsRow B 2 1 (.slice (some ⟨g, 0, none⟩) (n + 1) cap) (n + 1) ((xs ++ [j]).map (Value.int .i64)) → Below B wr w1 → K (a.put o.dst (.slice (some ⟨g, 0, none⟩) (n + 1) cap)) w1) :
    if Region.wanted o (yielded ops a.tmps) = true then Oper.wp Try.prog o a ((wr.alloc (.cells #[.int .i64 j] 2)).drew) K Q else E := by
  obtain ⟨i0, hi, hz0, hz1, hz2⟩ := info_parts infoI
  refine step_append_lies _ hgd s x 22 ho B 2 i0 (.int .i64 0) 1 8 Try.underlying22 hi hz0 hz1 hz2 rfl (by decide) v n _ hs ((hown.alloc _).drew) ⟨wr.heap.size, 0, none⟩ 1 1 [.int .i64 j] hx rfl (new_cell _ _) (one_int _) (by omega) (by unfold maxLen; omega) (by omega) (by simp; omega) (wr.heap.size + 1) (by simp) ?_
  intro g cap w1 hown1 hgrow _ _
  exact h g cap w1 (by simpa using hown1) ((((Below.refl B wr).alloc hB _).drew).grown hgrow (by simp; omega) (fun q hq => (hown.lt q hq).1))
/-- 'append([]int64{}, s...)'. -/
theorem wpList_appS {wq : World} {ops : Array Oper} {rest : List Oper} {o : Oper} {a : Act} {Q : Exit → Act → World → Prop} (hgd : o.guard = none) (s x : Operand)
    (ho : o.op = .call { callee := .builtin .append, args := #[s, x], argTypes := #[22, 22] }) (B : Nat) (hB : B ≤ wq.heap.size) (v : Value) (hs : a.eval s = v)
    (hown : wq.ownsRow B 2 1 v 0 []) (p : Addr) (len cap : Nat) (xs : List Int) (hx : a.eval x = .slice (some p) len cap) (hl : len ≤ 2000000) (hsl : SlV (Value.int .i64) wq (some p) len xs)
    (h : ∀ v' w1, w1.ownsRow B 2 1 v' len (xs.map (Value.int .i64)) → Below B wq w1 → wpList Try.prog ops Q rest (a.put o.dst v') w1) : wpList Try.prog ops Q (o :: rest) a wq := by
  obtain ⟨i0, hi, hz0, hz1, hz2⟩ := info_parts infoI
  have hnews : ∀ j u, (xs.map (Value.int .i64))[j]? = some u → wq.cell? (p.add j) = some u := by
    intro j u hj
    have hjl : j < len := by
      have := (List.getElem?_eq_some_iff.1 hj).1
      rw [List.length_map, hsl.1] at this; exact this
    obtain ⟨b, off, he, -, hc⟩ := hsl.2 (by omega)
    cases he
    have := hc j hjl
    rw [List.getElem?_map, List.getElem?_eq_getElem (by rw [hsl.1]; exact hjl)] at hj
    rw [List.getD_eq_getElem?_getD, List.getElem?_eq_getElem (by rw [hsl.1]; exact hjl)] at this
    rw [← hj]
    rw [Addr.add_lit]
    simpa using this
  refine wpList_append_own_at _ hgd s x 22 ho B 2 i0 (.int .i64 0) 1 8 Try.underlying22 hi hz0 hz1 hz2 rfl (by decide) v 0 [] hs hown p len cap (xs.map (Value.int .i64)) hx (by rw [List.length_map, hsl.1, Nat.mul_one]) hnews (by intro u hu; obtain ⟨y, _, rfl⟩ := List.mem_map.1 hu; rfl) (by unfold maxLen; omega) (by omega) hB ?_
  intro v' w1 hown1 hgrow _ _
  exact h v' w1 (by simpa using hown1) ((Below.refl B wq).grown hgrow hB (fun q hq => (hown.lt q hq).1))

set_option maxRecDepth 100000 in
set_option maxHeartbeats 2000000 in
theorem clone (p : Addr) (len cap : Nat) (xs : List Int) (w : World) (h : SlV (Value.int .i64) w (some p) len xs) (hl : len ≤ 1048576) : Calls Try.prog 90 #[.slice (some p) len cap] w fun e w' => ∃ v, e = .returned v ∧ w'.ownsRow w.heap.size 2 1 v len (xs.map (Value.int .i64)) ∧ Below w.heap.size w w' := by
  have hnil : ∀ w', (binOp .eql 22 (.slice (some p) len cap) (.slice none 0 0)).run Try.prog w' = .ok (.bool false) w' := fun w' => by first | exact Lib.run_eql_slice_nil w' 22 2 (some p) len cap Try.underlying22 | exact Lib.run_eql_slice_nil w' 22 2 (some p) len cap 0 0 Try.underlying22
  have HS : Hid (SlV (Value.int .i64) (w.alloc (.cells #[] 2)) (some p) len xs) := hid (h.below (Below.alloc (Below.refl _ _) (Nat.le_refl _) _))
  have HM := hid (World.ownsRow_made (size := 1) (e := 2) w #[] 0 (Nat.le_refl _) (by unfold maxLen; omega) rfl)
  clear h
  go_enter Try.func90, Try.ntmps90
  go_wp2_with (at_builtin; refine wpList_appS rfl (.tmp 5) (.tmp 6) rfl w.heap.size (by simp) _ rfl HM.out p len cap xs rfl (by omega) HS.out ?_; intro v' w1 hown hbel; have HO := hid hown; have HB := hid hbel; clear hown hbel)
  go_ret
  exact ⟨v', rfl, HO.out, (Below.alloc (Below.refl _ _) (Nat.le_refl _) _).trans HB.out⟩
set_option maxRecDepth 100000 in
set_option maxHeartbeats 2000000 in
theorem give (r c : Int) (a : Option Addr) (la ca : Nat) (xs : List Int) (b : Option Addr) (lb cb : Nat) (ys : List Int) (w : World) (h : SlV (Value.int .i64) w a la xs) (g : SlV (Value.int .i64) w b lb ys) (hla : la ≤ 1048576) (hlb : lb ≤ 1048576) : Calls Try.prog 89 #[.agg #[.int .i64 r, .int .i64 c, .slice a la ca, .slice b lb cb]] w fun e w' => e = .returned (if validG r c xs ys then .tuple #[.agg #[.int .i64 r, .int .i64 c, .slice a la ca, .slice b lb cb], .bool true] else .tuple #[.agg #[.int .i64 0, .int .i64 0, .slice none 0 0, .slice none 0 0], .bool false]) ∧ Below w.heap.size w w' := by
  obtain ⟨W2, hW2⟩ : ∃ W2, (w.alloc (.cells #[.int .i64 r, .int .i64 c, .slice a la ca, .slice b lb cb] 44)).alloc (.cells #[.int .i64 0, .int .i64 0, .slice none 0 0, .slice none 0 0] 44) = W2 := ⟨_, rfl⟩
  have bw : Below w.heap.size w W2 := by rw [← hW2]; exact (Below.alloc (Below.refl _ _) (Nat.le_refl _) _).alloc (by simp) _
  have x0 : Box W2 w.heap.size [.int .i64 r, .int .i64 c, .slice a la ca, .slice b lb cb] := by rw [← hW2]; exact (Box.new w [.int .i64 r, .int .i64 c, .slice a la ca, .slice b lb cb] 44).al _
  have x1 : Box W2 (w.heap.size + 1) [.int .i64 0, .int .i64 0, .slice none 0 0, .slice none 0 0] := by rw [← hW2]; have := Box.new (w.alloc (.cells #[.int .i64 r, .int .i64 c, .slice a la ca, .slice b lb cb] 44)) [.int .i64 0, .int .i64 0, .slice none 0 0, .slice none 0 0] 44; simpa using this
  have HIS := hid (l02Is r c a la ca xs b lb cb ys w.heap.size W2 x0 (h.below bw) (g.below bw) hla hlb)
  have HW := hid hW2
  have HB := hid bw
  have HX0 := hid x0
  have HX1 := hid x1
  clear hW2 bw x0 x1 h g hla hlb
  cases hv : validG r c xs ys with
  | false =>
    rw [hv] at HIS
    clear hv
    go_enter Try.func89, Try.ntmps89
    go_wp2_with fail
    rw [HW.out]
    refine HIS.out.mono ?_
    rintro e w' ⟨rfl, n, hw'⟩
    have HBQ : Hid (Below w.heap.size w w') := hid (by rw [hw']; exact below_drewN HB.out n)
    have bq : Below W2.heap.size W2 w' := by rw [hw']; exact below_drewN (Below.refl _ _) n
    have f0 := ((HX1.out.below bq).2 0 _ rfl).1
    have f1 := ((HX1.out.below bq).2 1 _ rfl).1
    have f2 := ((HX1.out.below bq).2 2 _ rfl).1
    have f3 := ((HX1.out.below bq).2 3 _ rfl).1
    have z0 := ((HX1.out.below bq).2 0 _ rfl).2
    have z1 := ((HX1.out.below bq).2 1 _ rfl).2
    have z2 := ((HX1.out.below bq).2 2 _ rfl).2
    have z3 := ((HX1.out.below bq).2 3 _ rfl).2
    clear hw' bq
    go_wp2_with fail
    refine bodyPost_ret (v := .tuple #[.agg #[.int .i64 0, .int .i64 0, .slice none 0 0, .slice none 0 0], .bool false]) (by simp [results, Try.results89, go_sem, f0, f1, f2, f3]) rfl ⟨rfl, ?_⟩
    repeat (first | exact HBQ.out | refine Below.setCell ?_ (by simp) _)
  | true =>
    rw [hv] at HIS
    clear hv
    go_enter Try.func89, Try.ntmps89
    go_wp2_with fail
    rw [HW.out]
    refine HIS.out.mono ?_
    rintro e w' ⟨rfl, n, hw'⟩
    have HBQ : Hid (Below w.heap.size w w') := hid (by rw [hw']; exact below_drewN HB.out n)
    have bq : Below W2.heap.size W2 w' := by rw [hw']; exact below_drewN (Below.refl _ _) n
    have g0 := ((HX0.out.below bq).2 0 _ rfl).1
    have g1 := ((HX0.out.below bq).2 1 _ rfl).1
    have g2 := ((HX0.out.below bq).2 2 _ rfl).1
    have g3 := ((HX0.out.below bq).2 3 _ rfl).1
    have f0 := ((HX1.out.below bq).2 0 _ rfl).1
    have f1 := ((HX1.out.below bq).2 1 _ rfl).1
    have f2 := ((HX1.out.below bq).2 2 _ rfl).1
    have f3 := ((HX1.out.below bq).2 3 _ rfl).1
    have z0 := ((HX1.out.below bq).2 0 _ rfl).2
    have z1 := ((HX1.out.below bq).2 1 _ rfl).2
    have z2 := ((HX1.out.below bq).2 2 _ rfl).2
    have z3 := ((HX1.out.below bq).2 3 _ rfl).2
    clear hw' bq
    go_wp2_with fail
    refine bodyPost_ret (v := .tuple #[.agg #[.int .i64 r, .int .i64 c, .slice a la ca, .slice b lb cb], .bool true]) (by simp [results, Try.results89, go_sem, f0, f1, f2, f3]) rfl ⟨rfl, ?_⟩
    repeat (first | exact HBQ.out | refine Below.setCell ?_ (by simp) _)
def RetZB (D : Bool) (r c : Int) (n : Nat) (A B : List Int) (w : World) (e : Ending) (w' : World) : Prop := if D then RetZ r c n A B true w e w' else RetZ 0 0 0 [] [] false w e w'
theorem giveNo (r c : Int) (a : Option Addr) (la ca : Nat) (xs : List Int) (b : Option Addr) (lb cb : Nat) (ys : List Int) (w : World) (h : SlV (Value.int .i64) w a la xs) (g : SlV (Value.int .i64) w b lb ys) (hla : la ≤ 1048576) (hlb : lb ≤ 1048576) (hv : validG r c xs ys = false) : Calls Try.prog 89 #[.agg #[.int .i64 r, .int .i64 c, .slice a la ca, .slice b lb cb]] w fun e w' => e = .returned (.tuple #[.agg #[.int .i64 0, .int .i64 0, .slice none 0 0, .slice none 0 0], .bool false]) ∧ Below w.heap.size w w' := by
  have := give r c a la ca xs b lb cb ys w h g hla hlb
  rw [hv] at this
  exact this
theorem giveYes (r c : Int) (a : Option Addr) (la ca : Nat) (xs : List Int) (b : Option Addr) (lb cb : Nat) (ys : List Int) (w : World) (h : SlV (Value.int .i64) w a la xs) (g : SlV (Value.int .i64) w b lb ys) (hla : la ≤ 1048576) (hlb : lb ≤ 1048576) (hv : validG r c xs ys = true) : Calls Try.prog 89 #[.agg #[.int .i64 r, .int .i64 c, .slice a la ca, .slice b lb cb]] w fun e w' => e = .returned (.tuple #[.agg #[.int .i64 r, .int .i64 c, .slice a la ca, .slice b lb cb], .bool true]) ∧ Below w.heap.size w w' := by
  have := give r c a la ca xs b lb cb ys w h g hla hlb
  rw [hv] at this
  exact this
set_option maxRecDepth 100000 in
set_option maxHeartbeats 8000000 in
theorem spZero (r c : Int) (p : Addr) (len cap : Nat) (xs : List Int) (w : World) (h : SlV (Value.int .i64) w (some p) len xs) (hl : len ≤ 1048576) (D : Bool) (hv : validG r c xs (negs xs) = D) : Calls Try.prog 42 #[.int .i64 r, .int .i64 c, .slice (some p) len cap] w (RetZB D r c len xs (negs xs) w) := by
  have HV := hid hv
  clear hv
  have hlen : xs.length = len := h.1
  have HLEN := hid hlen
  obtain ⟨W2, hW2⟩ : ∃ W2, (w.alloc (.cells #[.int .i64 0, .int .i64 0, .slice none 0 0, .slice none 0 0] 44)).alloc (.cells #[] 2) = W2 := ⟨_, rfl⟩
  have bw : Below w.heap.size w W2 := by rw [← hW2]; exact (Below.alloc (Below.refl _ _) (Nat.le_refl _) _).alloc (by simp) _
  have hz2 : W2.heap.size = w.heap.size + 1 + 1 := by rw [← hW2]; simp
  have x0 : Box W2 w.heap.size [.int .i64 0, .int .i64 0, .slice none 0 0, .slice none 0 0] := by rw [← hW2]; exact (Box.new w [.int .i64 0, .int .i64 0, .slice none 0 0, .slice none 0 0] 44).al _
  have HM : Hid (W2.ownsRow (w.heap.size + 1) 2 1 (.slice (some ⟨w.heap.size + 1, 0, none⟩) 0 0) 0 []) := hid (by
    have := World.ownsRow_made (size := 1) (e := 2) (w.alloc (.cells #[.int .i64 0, .int .i64 0, .slice none 0 0, .slice none 0 0] 44)) #[] 0 (Nat.le_refl _) (by unfold maxLen; omega) rfl
    rw [hW2] at this; simpa using this)
  have HS : Hid (SlV (Value.int .i64) W2 (some p) len xs) := hid (h.below bw)
  have HS0 := hid h
  have HW := hid hW2
  have HB := hid bw
  have HX0 := hid x0
  have HZ2 := hid hz2
  clear hW2 bw x0 hz2 h hlen
  go_enter Try.func42, Try.ntmps42
  go_wp2_with (at_builtin; rw [HW.out]; refine wpList_appS rfl (.tmp 12) (.tmp 13) rfl (w.heap.size + 1) (by have := HZ2.out; omega) _ rfl HM.out p len cap xs rfl (by omega) HS.out ?_; intro v' w1 hown hbel; obtain ⟨aA, cA, hvA, -, hoA⟩ := OwB.of_row hown; subst hvA; have HO := hid hoA; have HB1 := hid hbel; clear hown hbel hoA)
  have hsz1 : w.heap.size + 2 ≤ w1.heap.size := by have := HB1.out.size; have := HZ2.out; omega
  have HXR : Hid (Box w1 w.heap.size [.int .i64 0, .int .i64 0, .slice none 0 0, .slice none 0 0]) := hid (HX0.out.belowZ HB1.out (Nat.lt_succ_self _))
  have HBW : Hid (Below w.heap.size w w1) := hid (HB.out.trans (HB1.out.mono (Nat.le_succ _)))
  go_loopw [9] (fun i wr => ∃ (k : Nat) (vB : Value), k ≤ len ∧ i = .int .i64 (k : Int) ∧ wr.ownsRow (w1.heap.size + 1) 2 1 vB k (((negs xs).take k).map (Value.int .i64)) ∧ Box wr w1.heap.size [.int .i64 r, .int .i64 c, .slice aA len cA, vB] ∧ Box wr w.heap.size [.int .i64 0, .int .i64 0, .slice none 0 0, .slice none 0 0] ∧ OwB (w.heap.size + 1) w1.heap.size wr aA len xs ∧ Below w.heap.size w wr ∧ w1.heap.size + 1 ≤ wr.heap.size) (fun i _ => len - (intOf i).toNat)
  case atStart =>
    refine ⟨0, .slice none 0 0, Nat.zero_le _, rfl, World.ownsRow_nil _ _ _ _, Box.new _ _ _, HXR.out.al _, HO.out.below (Below.alloc (Below.refl _ _) (Nat.le_refl _) _), HBW.out.alloc (by omega) _, by simp⟩
  case round =>
    obtain ⟨k, vB, hk, rfl, hrow, hbx, hbr, hoa, hbel, hsz⟩ := hrel
    have HROW := hid hrow
    have HBX := hid hbx
    have HBR := hid hbr
    have HOA := hid hoa
    have HBEL := hid hbel
    have HSZ := hid hsz
    clear hrow hoa hbel hsz
    by_cases hlt : k < len
    · obtain ⟨bq, oq, hq, hbq, -⟩ := HS0.out.2 (by omega)
      have hq' : p = ⟨bq, oq, none⟩ := by injection hq
      subst hq'
      obtain ⟨bq', oq', hq2, -, hcq⟩ := (HS0.out.below HBEL.out).2 (by omega)
      obtain ⟨rfl, rfl⟩ : bq = bq' ∧ oq = oq' := by injection hq2 with e; injection e with e1 e2 e3; exact ⟨e1, e2⟩
      have d1 : wr.cell? ⟨bq, oq + k, none⟩ = some (.int .i64 (xs.getD k 0)) := hcq k hlt
      have HT : Hid ((negs xs).take (k + 1) = (negs xs).take k ++ [neg1 (xs.getD k 0)]) := hid (negs_at (by rw [HLEN.out]; exact hlt))
      obtain ⟨u, hu⟩ : ∃ u, xs.getD k 0 = u := ⟨_, rfl⟩
      rw [hu] at d1 HT
      have hz : IntKind.i64.wrap (-u) = neg1 u := rfl
      obtain ⟨z, hzz⟩ : ∃ z, neg1 u = z := ⟨_, rfl⟩
      rw [hzz] at hz HT
      have f3 := (hbx.2 3 _ rfl).1
      have i1 : (0 : Int) ≤ (k : Int) := by omega
      have i2 : (k : Int) < (len : Int) := by omega
      have HKEEP : Hid (∀ w', Below (w1.heap.size + 1) wr w' → w'.cell? ⟨w1.heap.size, 3, none⟩ = some vB ∧ w'.frozen? ⟨w1.heap.size, 3, none⟩ = false ∧ w'.cell? ⟨bq, oq + k, none⟩ = some (.int .i64 u)) := hid (fun w' b => by
        have hx := HBX.out.belowZ b (Nat.lt_succ_self _)
        exact ⟨(hx.2 3 _ rfl).1, (hx.2 3 _ rfl).2, (b.cell (p := ⟨bq, oq + k, none⟩) (by show bq < _; omega)).trans d1⟩)
      have z3 := (hbx.2 3 _ rfl).2
      have f3a := ((hbx.al (.cells #[.int .i64 z] 2)).2 3 _ rfl).1
      clear hu hzz hcq hq hbx hbr
      go_wp2_with fail
      go_region_law ((refine step_appC (by rfl) (.tmp 23) (.tmp 29) (by rfl) (w1.heap.size + 1) HSZ.out vB k _ z (by rfl) HROW.out (by omega) (by rfl) ?_; intro g3 c3 w3 hr3 hb3; have hx3 := HBX.out.belowZ hb3 (Nat.lt_succ_self _); have f3 := (hx3.2 3 _ rfl).1; have z3 := (hx3.2 3 _ rfl).2; have HR3 := hid hr3; have HB3 := hid hb3; have HX3 := hid hx3; clear hr3 hb3 hx3))
      all_goals
        go_wp2_with fail
        go_roundw
        case rel =>
          refine ⟨k + 1, _, by omega, by go_num, by rw [HT.out]; exact row_setO HR3.out _ (by simp), HX3.out.set 3 _, ((HBR.out.belowZ HB3.out (by omega)).off _ _ (by simp; omega)), ?_, ?_, by have := HB3.out.size; have := HSZ.out; simp [World.setCell]; omega⟩
          · exact (HOA.out.belowB (HB3.out.mono (Nat.le_succ _))).off _ _ (.inr (Nat.le_refl _))
          · exact Below.setCell (HBEL.out.trans (HB3.out.mono (by omega))) (by simp; omega) _
        case measure => simp [intOf]; omega
    · obtain rfl : k = len := by omega
      have e0 : (negs xs).take k = negs xs := List.take_of_length_le (by rw [negs, List.length_map, HLEN.out]; exact Nat.le_refl _)
      have HE := hid e0
      clear e0
      obtain ⟨aB, cB, hvB, -, hoB⟩ := OwB.of_row HROW.out
      subst hvB
      rw [HE.out] at hoB
      have HOB := hid hoB
      clear hoB
      have f0 := (hbx.2 0 _ rfl).1
      have f1 := (hbx.2 1 _ rfl).1
      have f2 := (hbx.2 2 _ rfl).1
      have f3 := (hbx.2 3 _ rfl).1
      have x5 := fun (w5 : World) (b : Below wr.heap.size wr w5) => hbr.below b
      have HX5 := hid x5
      clear hbx x5 hbr
      cases D with
      | false =>
        have HG := hid (giveNo r c aA k cA xs aB k cB (negs xs) wr HOA.out.slv HOB.out.slv hl hl HV.out)
        go_wp2_with (go_at_call 89; refine HG.out.mono ?_; rintro e w5 ⟨rfl, hb5⟩; have hbr := HX5.out w5 hb5; have g0 := (hbr.2 0 _ rfl).1; have g1 := (hbr.2 1 _ rfl).1; have g2 := (hbr.2 2 _ rfl).1; have g3 := (hbr.2 3 _ rfl).1; have z0 := (hbr.2 0 _ rfl).2; have z1 := (hbr.2 1 _ rfl).2; have z2 := (hbr.2 2 _ rfl).2; have z3 := (hbr.2 3 _ rfl).2; have HB5 := hid hb5; clear hb5 hbr)
        refine bodyPost_ret (v := .tuple #[.agg #[.int .i64 0, .int .i64 0, .slice none 0 0, .slice none 0 0], .bool false]) (by simp [results, Try.results42, go_sem, g0, g1, g2, g3]) rfl ?_
        refine retZ_no ?_
        repeat (first | exact below_to HBEL.out HB5.out | refine Below.setCell ?_ (by simp) _)
      | true =>
        have HG := hid (giveYes r c aA k cA xs aB k cB (negs xs) wr HOA.out.slv HOB.out.slv hl hl HV.out)
        go_wp2_with (go_at_call 89; refine HG.out.mono ?_; rintro e w5 ⟨rfl, hb5⟩; have hbr := HX5.out w5 hb5; have g0 := (hbr.2 0 _ rfl).1; have g1 := (hbr.2 1 _ rfl).1; have g2 := (hbr.2 2 _ rfl).1; have g3 := (hbr.2 3 _ rfl).1; have z0 := (hbr.2 0 _ rfl).2; have z1 := (hbr.2 1 _ rfl).2; have z2 := (hbr.2 2 _ rfl).2; have z3 := (hbr.2 3 _ rfl).2; have HB5 := hid hb5; clear hb5 hbr)
        refine bodyPost_ret (v := .tuple #[.agg #[.int .i64 r, .int .i64 c, .slice aA k cA, .slice aB k cB], .bool true]) (by simp [results, Try.results42, go_sem, g0, g1, g2, g3]) rfl ?_
        have o1 := HOA.out.below HB5.out
        have o2 := HOB.out.below HB5.out
        have q1 := HSZ.out
        have q2 := HB5.out.size
        refine ⟨aA, cA, aB, cB, w1.heap.size + 1, rfl, ?_, ?_, by omega, ?_, ?_⟩
        · refine OwB.mono (lo := w.heap.size + 1) (hi := w1.heap.size) ?_ (by omega) (by omega)
          repeat (first | exact o1 | refine OwB.off ?_ _ _ (.inl (by simp)))
        · refine OwB.mono (lo := w1.heap.size + 1) (hi := wr.heap.size) ?_ (by omega) (by simp [World.setCell]; omega)
          repeat (first | exact o2 | refine OwB.off ?_ _ _ (.inl (by simp; omega)))
        · simp [World.setCell]; omega
        · repeat (first | exact below_to HBEL.out HB5.out | refine Below.setCell ?_ (by simp) _)
theorem validZ_false {r c : Int} {xs : List Int} (h : validG r c xs (negs xs) = false) : inB 1 6 r = false ∨ (inB 1 6 r = true ∧ inB 1 6 c = false) ∨ (inB 1 6 r = true ∧ inB 1 6 c = true ∧ gainsB (r * c) xs = false) := by
  rw [validZ] at h
  cases h1 : inB 1 6 r
  · exact .inl rfl
  · cases h2 : inB 1 6 c
    · exact .inr (.inl ⟨rfl, rfl⟩)
    · refine .inr (.inr ⟨rfl, rfl, ?_⟩)
      rw [h1, h2] at h; simpa using h
set_option maxRecDepth 100000 in
set_option maxHeartbeats 8000000 in
theorem imZeroNo (r c : Int) (p : Addr) (len cap : Nat) (xs : List Int) (w : World) (h : SlV (Value.int .i64) w (some p) len xs) (hl : len ≤ 1048576) (hv : validG r c xs (negs xs) = false) : Calls Try.prog 44 #[.int .i64 r, .int .i64 c, .slice (some p) len cap] w (RetZ 0 0 0 [] [] false w) := by
  have bw : Below w.heap.size w (w.alloc (.cells #[.int .i64 0, .int .i64 0, .slice none 0 0, .slice none 0 0] 44)) := Below.alloc (Below.refl _ _) (Nat.le_refl _) _
  have hx : Box (w.alloc (.cells #[.int .i64 0, .int .i64 0, .slice none 0 0, .slice none 0 0] 44)) w.heap.size [.int .i64 0, .int .i64 0, .slice none 0 0, .slice none 0 0] := Box.new _ _ _
  have hs := h.below bw
  have HB := hid bw
  have HX := hid hx
  have HS := hid hs
  clear bw hx hs h
  rcases validZ_false hv with h1 | ⟨h1, h2⟩ | ⟨h1, h2, h3⟩
  · clear hv
    have H1 := hid (fun w' => isSide r w')
    rw [h1] at H1
    clear h1
    go_enter Try.func44, Try.ntmps44
    go_wp2_with (go_at_call 82; refine (H1.out _).mono ?_; rintro e w' ⟨rfl, rfl⟩)
    refine bodyPost_ret (v := .tuple #[.agg #[.int .i64 0, .int .i64 0, .slice none 0 0, .slice none 0 0], .bool false]) (by simp [results, Try.results44, go_sem]) rfl ?_
    refine retZ_no ?_
    repeat (first | exact HB.out | refine Below.setCell ?_ (by simp) _)
  · clear hv
    have H1 := hid (fun w' => isSide r w')
    have H2 := hid (fun w' => isSide c w')
    rw [h1] at H1
    rw [h2] at H2
    clear h1 h2
    go_enter Try.func44, Try.ntmps44
    go_wp2_with fail
    refine (H1.out _).mono ?_
    rintro e w' ⟨rfl, rfl⟩
    go_wp2_with fail
    refine (H2.out _).mono ?_
    rintro e w' ⟨rfl, rfl⟩
    go_wp2_with fail
    refine bodyPost_ret (v := .tuple #[.agg #[.int .i64 0, .int .i64 0, .slice none 0 0, .slice none 0 0], .bool false]) (by simp [results, Try.results44, go_sem]) rfl ?_
    refine retZ_no ?_
    repeat (first | exact HB.out | refine Below.setCell ?_ (by simp) _)
  · clear hv
    have H1 := hid (fun w' => isSide r w')
    have H2 := hid (fun w' => isSide c w')
    have H3 := hid (isGains r c (some p) len cap xs _ h1 h2 HS.out hl)
    rw [h1] at H1
    rw [h2] at H2
    rw [h3] at H3
    clear h1 h2 h3
    go_enter Try.func44, Try.ntmps44
    go_wp2_with fail
    refine (H1.out _).mono ?_
    rintro e w' ⟨rfl, rfl⟩
    go_wp2_with fail
    refine (H2.out _).mono ?_
    rintro e w' ⟨rfl, rfl⟩
    go_wp2_with fail
    refine H3.out.mono ?_
    rintro e w' ⟨rfl, n, hw'⟩
    have hbx : Box w' w.heap.size [.int .i64 0, .int .i64 0, .slice none 0 0, .slice none 0 0] := by rw [hw']; exact HX.out.dr n
    have HBW : Hid (Below w.heap.size w w') := hid (by rw [hw']; exact below_drewN HB.out n)
    have f0 := (hbx.2 0 _ rfl).1
    have f1 := (hbx.2 1 _ rfl).1
    have f2 := (hbx.2 2 _ rfl).1
    have f3 := (hbx.2 3 _ rfl).1
    have z0 := (hbx.2 0 _ rfl).2
    have z1 := (hbx.2 1 _ rfl).2
    have z2 := (hbx.2 2 _ rfl).2
    have z3 := (hbx.2 3 _ rfl).2
    clear hw' hbx
    go_wp2_with fail
    refine bodyPost_ret (v := .tuple #[.agg #[.int .i64 0, .int .i64 0, .slice none 0 0, .slice none 0 0], .bool false]) (by simp [results, Try.results44, go_sem, f0, f1, f2, f3]) rfl ?_
    refine retZ_no ?_
    repeat (first | exact HBW.out | refine Below.setCell ?_ (by simp) _)
end TryWalk
end Go.Proofs.Ytlbmmecjiopbbaa
