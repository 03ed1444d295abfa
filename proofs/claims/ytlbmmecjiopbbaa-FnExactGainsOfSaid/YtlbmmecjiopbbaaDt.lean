/- A region that draws its order, whose operations leave settled values in every world of a kind and keep to that kind: in whatever order, one walk. No condition. -/
import Derived.Deep.RegionHeld3
namespace Go.Proofs.Ytlbmmecjiopbbaa.Dt
open Go
set_option linter.unusedVariables false
/-- What an operation leaves: a value and a world. -/
def uponV (P : Program) (K : Value → World → Prop) : Result Next → Prop
  | .ok (.value v) w' => K v w'
  | .ok .skip w' => K undef w'
  | .ok (.enter f args) w' => Calls P f args w' fun e w'' => ∃ v, e = .returned v ∧ K v w''
  | _ => False
section
variable {P : Program} {ops : Array Oper} {Q : Exit → Act → World → Prop} {md : Region.Mode} {S : World → Prop}
theorem uponV_value (K : Value → World → Prop) (v : Value) (w : World) : uponV P K (.ok (.value v) w) = K v w := rfl
theorem uponV_skip (K : Value → World → Prop) (w : World) : uponV P K (.ok .skip w) = K undef w := rfl
theorem uponV_enter (K : Value → World → Prop) (f : FuncId) (args : Array Value) (w : World) : uponV P K (.ok (.enter f args) w) = Calls P f args w fun e w'' => ∃ v, e = .returned v ∧ K v w'' := rfl
theorem upon_of_uponV {o : Oper} {a : Act} {next : Act → World → Prop} {K : Value → World → Prop} (h : ∀ v w, K v w → next (a.put o.dst v) w) {r : Result Next} (hr : uponV P K r) : o.upon P a next Q r := by
  cases r with
  | ok n w =>
    cases n with
    | value v => exact h _ _ hr
    | skip => exact h _ _ hr
    | enter f args =>
      refine Calls.mono hr ?_
      rintro e w'' ⟨v, rfl, hk⟩
      exact h _ _ hk
    | _ => exact (hr : False).elim
  | halt x w => exact (hr : False).elim
/-- In every world that meets S the operation leaves v, and a world that meets S. -/
def Lets (P : Program) (ops : Array Oper) (S : World → Prop) (o : Oper) (v : Value) (a : Act) : Prop :=
  (Region.wanted o (yielded ops a.tmps) = true ∧ ∀ (w : World) (K : Value → World → Prop), S w → Shut (∀ w', S w' → K v w') → uponV P K ((execOp a.eval o).run P w)) ∨
  (Region.wanted o (yielded ops a.tmps) = false ∧ v = undef)
theorem Lets.of_same {o : Oper} {v : Value} {a a' : Act} (hy : Lets P ops S o v a) (he : execOp a'.eval o = execOp a.eval o)
    (hw : Region.wanted o (yielded ops a'.tmps) = Region.wanted o (yielded ops a.tmps)) : Lets P ops S o v a' := by
  unfold Lets at *
  rw [he, hw]
  exact hy
theorem Lets.wpOp {j : Nat} {o : Oper} {v : Value} {a : Act} (ho : ops[j]? = some o) (h : Lets P ops S o v a) {K : Act → World → Prop} {w : World} (hS : S w) (hK : ∀ w', S w' → K (a.put o.dst v) w') : wpOp P ops Q j K a w := by
  unfold Go.wpOp
  simp only [ho]
  rcases h with ⟨hw, hv⟩ | ⟨hw, rfl⟩
  · simp only [hw, if_true]
    exact .inl (upon_of_uponV (K := fun v' w' => K (a.put o.dst v') w') (fun _ _ h => h) (hv w _ hS (fun w' hS' => hK w' hS')))
  · simp only [hw, Bool.false_eq_true, if_false]
    exact hK w hS
/-- A walk of settled operations, one after the other; n of them; behind them R. -/
inductive Det (P : Program) (md : Region.Mode) (ops : Array Oper) (S : World → Prop) (T : Nat → Bool) (R : Array Bool → Act → Prop) : Nat → Array Bool → Act → Prop
  | rest {listed : Array Bool} {a : Act} (hR : R listed a) (hT : ∀ i, listed.getD i true = false → T i = true) : Det P md ops S T R 0 listed a
  | take {n : Nat} {listed : Array Bool} {a : Act} {i : Nat} {oi : Oper} {v : Value} (hi : ops[i]? = some oi) (hT : T i = false) (hr : i ∈ Region.ready md ops listed)
      (hf : ∀ j oj, ops[j]? = some oj → j ≠ i → listed.getD j true = false → (∀ e ∈ oj.after, Region.binds md e = true → e.on ≠ i) → oi.apart ops oj = true)
      (hl : Lets P ops S oi v a) (h : Det P md ops S T R n (listed.setIfInBounds i true) (a.put oi.dst v)) : Det P md ops S T R (n + 1) listed a
theorem Det.front {T : Nat → Bool} {R : Array Bool → Act → Prop} (hsel : ∀ (j : Nat) (o : Oper) cs b, ops[j]? = some o → o.op ≠ .select cs b) {n : Nat} {listed : Array Bool} {a : Act} (h : Det P md ops S T R n listed a) {j : Nat} (hj : j ∈ Region.ready md ops listed) (hTj : T j = false) :
    ∃ oj v n', n = n' + 1 ∧ ops[j]? = some oj ∧ Lets P ops S oj v a ∧ Det P md ops S T R n' (listed.setIfInBounds j true) (a.put oj.dst v) := by
  induction h with
  | rest hR hT =>
    have := hT j (mem_ready.1 hj).1
    rw [hTj] at this; cases this
  | @take n listed a i oi v hi hT hr hf hl h ih =>
    by_cases hji : j = i
    · subst hji; exact ⟨oi, v, n, rfl, hi, hl, h⟩
    · obtain ⟨oj, u, n', rfl, hoj, hlj, hd⟩ := ih (ready_mono hj hji)
      obtain ⟨hjun, oj', hoj', hall⟩ := mem_ready.1 hj
      rw [hoj] at hoj'; cases hoj'
      have hnot : ∀ e ∈ oj.after, Region.binds md e = true → e.on ≠ i := fun e he hb heq => by
        have h1 := hall e he hb
        have h0 := (mem_ready.1 hr).1
        rw [heq] at h1
        rcases Nat.lt_or_ge i listed.size with h' | h'
        · simp [h'] at h0 h1; rw [h0] at h1; cases h1
        · simp [Array.getElem?_eq_none h'] at h1
      obtain ⟨h1, h2, h3⟩ := Oper.apart_spec (hf j oj hoj hji hjun hnot)
      refine ⟨oj, u, n' + 1, rfl, hoj, ?_, ?_⟩
      · exact hlj.of_same (execOp_put oj (fun cs b => hsel j oj cs b hoj) a oi.dst v h1).symm (wanted_put oj a oi.dst v h1).symm
      · refine Det.take (v := v) hi hT (ready_mono hr (Ne.symm hji)) ?_ (hl.of_same (execOp_put oi (fun cs b => hsel i oi cs b hi) a oj.dst u h3) (wanted_put oi a oj.dst u h3)) ?_
        · intro k ok hk hki hun hno
          refine hf k ok hk hki ?_ hno
          by_cases hjk : j = k
          · subst hjk; exact hjun
          · rw [getD_set_ne true hjk] at hun; exact hun
        · rw [Array.setIfInBounds_comm _ _ hji, ← Act.put_comm a v u h2]; exact hd
/-- What is listed waits for nothing that is not. -/
def Closed (md : Region.Mode) (ops : Array Oper) (listed : Array Bool) : Prop := ∀ x ox, ops[x]? = some ox → listed.getD x false = true → ∀ e ∈ ox.after, Region.binds md e = true → listed.getD e.on false = true
theorem Closed.set {listed : Array Bool} (h : Closed md ops listed) {j : Nat} (hj : j ∈ Region.ready md ops listed) : Closed md ops (listed.setIfInBounds j true) := by
  intro x ox hx hl e he hb
  by_cases hxj : x = j
  · subst hxj
    obtain ⟨_, o, ho, hall⟩ := mem_ready.1 hj
    rw [hx] at ho; cases ho
    exact getD_set_true (hall e he hb)
  · rw [getD_set_ne false (Ne.symm hxj)] at hl
    exact getD_set_true (h x ox hx hl e he hb)
/-- What l0 lists is listed. -/
def Sub (l0 listed : Array Bool) : Prop := ∀ i, l0.getD i false = true → listed.getD i false = true
theorem Sub.set {l0 listed : Array Bool} (h : Sub l0 listed) (j : Nat) : Sub l0 (listed.setIfInBounds j true) := fun i hi => getD_set_true (h i hi)
theorem Det.any {T : Nat → Bool} {m : Nat} {l0 : Array Bool} (hsel : ∀ (j : Nat) (o : Oper) cs b, ops[j]? = some o → o.op ≠ .select cs b)
    (hT : ∀ listed, Closed md ops listed → Sub l0 listed → ∀ t ∈ Region.ready md ops listed, T t = true → ∀ i, T i = false → i < ops.size → listed.getD i true = true) :
    ∀ (n : Nat) (listed : Array Bool) (a : Act) (w : World), Det P md ops S T (fun l a => ∀ w, S w → wpAny P md ops Q m l a w) n listed a → Closed md ops listed → Sub l0 listed → S w → wpAny P md ops Q (m + n) listed a w := by
  intro n
  induction n with
  | zero =>
    intro listed a w h _ _ hS
    cases h with
    | rest hR _ => exact hR w hS
  | succ n ih =>
    intro listed a w h hc hsb hS
    have h0 := h
    cases h with
    | @take _ _ _ i oi v hi hTi hr hf hl hd =>
      refine ⟨fun he => (by rw [he] at hr; cases hr), fun j hj => ?_⟩
      have hTj : T j = false := by
        cases hb : T j with
        | false => rfl
        | true =>
          have h1 := hT listed hc hsb j hj hb i hTi (Array.getElem?_eq_some_iff.1 hi).1
          rw [(mem_ready.1 hr).1] at h1; cases h1
      obtain ⟨oj, u, n', hn, hoj, hlj, hdj⟩ := h0.front hsel hj hTj
      obtain rfl : n' = n := by omega
      exact hlj.wpOp hoj hS (fun w' hS' => ih _ _ w' hdj (hc.set hj) (hsb.set j) hS')
/-- Does number t wait for number i? -/
def waits (md : Region.Mode) (ops : Array Oper) : Nat → Nat → Nat → Bool
  | 0, _, _ => false
  | f + 1, t, i => match ops[t]? with
    | none => false
    | some o => o.after.any fun e => Region.binds md e && (e.on == i || waits md ops f e.on i)
theorem waits_spec {listed : Array Bool} (hc : Closed md ops listed) {i : Nat} : ∀ (f t : Nat), waits md ops f t i = true → (∀ o, ops[t]? = some o → ∀ e ∈ o.after, Region.binds md e = true → listed.getD e.on false = true) → listed.getD i false = true
  | 0, t, h, _ => by cases h
  | f + 1, t, h, hall => by
    unfold waits at h
    cases ho : ops[t]? with
    | none => rw [ho] at h; cases h
    | some o =>
      rw [ho] at h
      simp only at h
      obtain ⟨e, he, hb⟩ := Array.any_eq_true'.1 h
      simp only [Bool.and_eq_true, Bool.or_eq_true, beq_iff_eq] at hb
      have h1 := hall o ho e (by simpa using he) hb.1
      rcases hb.2 with h2 | h2
      · rw [← h2]; exact h1
      · refine waits_spec hc f e.on h2 (fun o' ho' e' he' hb' => hc e.on o' ho' h1 e' he' hb')
/-- The tail's operations wait for all that are not of the tail, nor listed from the first. -/
def tailB (md : Region.Mode) (ops : Array Oper) (T : List Nat) (l0 : Array Bool) : Bool := T.all fun t => (List.range ops.size).all fun i => T.contains i || (l0.getD i false || waits md ops ops.size t i)
theorem getD_tf {listed : Array Bool} {i : Nat} (h : listed.getD i false = true) : listed.getD i true = true := by
  rw [Array.getD_eq_getD_getElem?] at h ⊢
  cases hl : listed[i]? with
  | none => rfl
  | some b => rw [hl] at h; exact h
theorem tail_spec {T : List Nat} {l0 : Array Bool} (h : tailB md ops T l0 = true) : ∀ listed, Closed md ops listed → Sub l0 listed → ∀ t ∈ Region.ready md ops listed, T.contains t = true → ∀ i, T.contains i = false → i < ops.size → listed.getD i true = true := by
  intro listed hc hsb t ht hTt i hTi hlt
  have h1 := List.all_eq_true.1 h t (by simpa using hTt)
  have h2 := List.all_eq_true.1 h1 i (List.mem_range.2 hlt)
  rw [hTi, Bool.false_or, Bool.or_eq_true] at h2
  rcases h2 with h2 | h2
  · exact getD_tf (hsb i h2)
  · obtain ⟨_, o, ho, hall⟩ := mem_ready.1 ht
    exact getD_tf (waits_spec hc _ _ h2 (fun o' ho' => by rw [ho] at ho'; cases ho'; exact hall))
def closedB (md : Region.Mode) (ops : Array Oper) (listed : Array Bool) : Bool := (List.range listed.size).all fun x => !listed.getD x false || match ops[x]? with
  | none => true
  | some o => o.after.all fun e => !Region.binds md e || listed.getD e.on false
theorem closed_spec {listed : Array Bool} (h : closedB md ops listed = true) : Closed md ops listed := by
  intro x ox hx hl e he hb
  have hlt : x < listed.size := by
    rcases Nat.lt_or_ge x listed.size with h' | h'
    · exact h'
    · rw [Array.getD_eq_getD_getElem?, Array.getElem?_eq_none h'] at hl; cases hl
  have h1 := List.all_eq_true.1 h x (List.mem_range.2 hlt)
  rw [hl, hx] at h1
  simp only [Bool.not_true, Bool.false_or] at h1
  have h2 := (Array.all_eq_true_iff_forall_mem.1 h1) e he
  rw [hb] at h2
  simpa using h2
/-! ### The moves of a walk -/
theorem start {n : Nat} {id : Nat} {a : Act} {w : World} (hm : P.follows .mixedOrders = true) (hn : ops.size = n) (h : wpAny P .any ops Q n (Array.replicate n false) a w.drew) : (Code.region id ops true).wp P Q a w := by
  subst hn
  exact wp_region_any hm h
theorem enter {T : List Nat} {m n k : Nat} {listed : Array Bool} {a : Act} {w : World} (hs : Region.noSelect ops = true) (hT : tailB md ops T listed = true) (hc : closedB md ops listed = true) (hk : k = m + n) (hS : S w)
    (h : Det P md ops S T.contains (fun l a => ∀ w, S w → wpAny P md ops Q m l a w) n listed a) : wpAny P md ops Q k listed a w := by
  subst hk
  exact Det.any (l0 := listed) (Region.noSelect_spec hs) (tail_spec hT) n listed a w h (closed_spec hc) (fun _ h => h) hS
theorem get_drop {l rest : List Oper} {i : Nat} {o : Oper} (h : l.drop i = o :: rest) : l.toArray[i]? = some o := by
  have h1 : (l.drop i)[0]? = some o := by rw [h]; rfl
  rw [List.getElem?_drop] at h1
  simpa using h1
/-- The next operation: a value that it yields with the world as it is. -/
theorem quiet {l rest : List Oper} {T : List Nat} {R : Array Bool → Act → Prop} {n : Nat} {listed : Array Bool} {a : Act} {i : Nat} {oi : Oper} {v : Value} (hi : l.drop i = oi :: rest) (hT : T.contains i = false) (hr : (Region.ready md l.toArray listed).contains i = true) (hf : Region.free md l.toArray listed i = true)
    (hw : Region.wanted oi (yielded l.toArray a.tmps) = true) (hy : ∀ w, S w → (execOp a.eval oi).run P w = .ok (.value v) w)
    (h : Det P md l.toArray S T.contains R n (listed.setIfInBounds i true) (a.put oi.dst v)) : Det P md l.toArray S T.contains R (n + 1) listed a :=
  Det.take (get_drop hi) hT (by simpa using hr) (Region.free_spec (get_drop hi) hf) (.inl ⟨hw, fun w K hS hK => by rw [hy w hS]; exact hK.out w hS⟩) h
/-- One that is not wanted. -/
theorem skip {l rest : List Oper} {T : List Nat} {R : Array Bool → Act → Prop} {n : Nat} {listed : Array Bool} {a : Act} {i : Nat} {oi : Oper} (hi : l.drop i = oi :: rest) (hT : T.contains i = false) (hr : (Region.ready md l.toArray listed).contains i = true) (hf : Region.free md l.toArray listed i = true)
    (hw : Region.wanted oi (yielded l.toArray a.tmps) = false) (h : Det P md l.toArray S T.contains R n (listed.setIfInBounds i true) (a.put oi.dst undef)) : Det P md l.toArray S T.contains R (n + 1) listed a :=
  Det.take (get_drop hi) hT (by simpa using hr) (Region.free_spec (get_drop hi) hf) (.inr ⟨hw, rfl⟩) h
/-- One that turns the world: a call, a new variable, a store. -/
theorem act {l rest : List Oper} {T : List Nat} {R : Array Bool → Act → Prop} {n : Nat} {listed : Array Bool} {a : Act} {i : Nat} {oi : Oper} {v : Value} (hi : l.drop i = oi :: rest) (hT : T.contains i = false) (hr : (Region.ready md l.toArray listed).contains i = true) (hf : Region.free md l.toArray listed i = true)
    (hw : Region.wanted oi (yielded l.toArray a.tmps) = true) (hy : ∀ (w : World) (K : Value → World → Prop), S w → Shut (∀ v' w', v' = v → S w' → K v' w') → uponV P K ((execOp a.eval oi).run P w))
    (h : Det P md l.toArray S T.contains R n (listed.setIfInBounds i true) (a.put oi.dst v)) : Det P md l.toArray S T.contains R (n + 1) listed a :=
  Det.take (get_drop hi) hT (by simpa using hr) (Region.free_spec (get_drop hi) hf) (.inl ⟨hw, fun w K hS hK => hy w K hS (fun _ w' e hS' => e ▸ hK.out w' hS')⟩) h
/-- The end of the settled part. -/
theorem tail {T : List Nat} {R : Array Bool → Act → Prop} {listed : Array Bool} {a : Act} (hT : ((List.range listed.size).all fun i => listed.getD i true || T.contains i) = true) (h : R listed a) : Det P md ops S T.contains R 0 listed a :=
  Det.rest h fun i hi => by
    have hlt : i < listed.size := by
      rcases Nat.lt_or_ge i listed.size with h' | h'
      · exact h'
      · rw [Array.getD_eq_getD_getElem?, Array.getElem?_eq_none h'] at hi; cases hi
    have := List.all_eq_true.1 hT i (List.mem_range.2 hlt)
    rw [hi, Bool.false_or] at this
    exact this
theorem done {listed : Array Bool} {a : Act} {T : List Nat} (hT : ((List.range listed.size).all fun i => listed.getD i true || T.contains i) = true) (hr : Region.ready md ops listed = []) (h : ∀ w, S w → Q .normal a w) :
    Det P md ops S T.contains (fun l a => ∀ w, S w → wpAny P md ops Q 0 l a w) 0 listed a :=
  tail hT fun w hS => ⟨hr, h w hS⟩
/-- From number i on the operations can come up in their order alone. -/
def forcedB (md : Region.Mode) (ops : Array Oper) : Nat → Nat → Array Bool → Bool
  | 0, _, listed => Region.ready md ops listed == []
  | m + 1, i, listed => Region.ready md ops listed == [i] && forcedB md ops m (i + 1) (listed.setIfInBounds i true)
theorem forced_any {l : List Oper} : ∀ (m i : Nat) (listed : Array Bool) (a : Act) (w : World), i + m = l.length → forcedB md l.toArray m i listed = true → wpList P l.toArray Q (l.drop i) a w → wpAny P md l.toArray Q m listed a w := by
  intro m
  induction m with
  | zero =>
    intro i listed a w hl hf h
    have : l.drop i = [] := List.drop_eq_nil_of_le (by omega)
    rw [this] at h
    exact ⟨by simpa [forcedB] using hf, h⟩
  | succ m ih =>
    intro i listed a w hl hf h
    simp only [forcedB, Bool.and_eq_true, beq_iff_eq] at hf
    obtain ⟨hr, hf⟩ := hf
    have hlt : i < l.length := by omega
    rw [List.drop_eq_getElem_cons hlt] at h
    refine ⟨fun he => (by rw [hr] at he; cases he), fun j hj => ?_⟩
    rw [hr] at hj
    obtain rfl : j = i := by simpa using hj
    have hj2 : (l.toArray)[j]? = some l[j] := by simp [hlt]
    have h2 : wpOp P l.toArray Q j (wpList P l.toArray Q (l.drop (j + 1))) a w := by
      unfold wpOp
      simp only [hj2]
      exact h
    exact wpOp_mono (fun a' w' h' => ih (j + 1) _ a' w' (by omega) hf h') h2
/-- The end of the settled part, and the tail as it stands in the text. -/
theorem last {l : List Oper} {T : List Nat} {m : Nat} (k : Nat) {listed : Array Bool} {a : Act} (hT : ((List.range listed.size).all fun i => listed.getD i true || T.contains i) = true) (hk : k + m = l.length) (hf : forcedB md l.toArray m k listed = true)
    (h : ∀ w, S w → wpList P l.toArray Q (l.drop k) a w) : Det P md l.toArray S T.contains (fun x a => ∀ w, S w → wpAny P md l.toArray Q m x a w) 0 listed a :=
  tail hT fun w hS => forced_any m k listed a w hk hf (h w hS)
end
end Go.Proofs.Ytlbmmecjiopbbaa.Dt
