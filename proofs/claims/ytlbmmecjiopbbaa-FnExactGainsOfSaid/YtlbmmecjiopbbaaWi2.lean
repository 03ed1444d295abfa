/- Games: the law on convex worths. No condition. -/
import Derived.Test.YtlbmmecjiopbbaaWi1
namespace Go.Proofs.Ytlbmmecjiopbbaa
open Go.RowKit Flo Sl Pg
set_option linter.unusedVariables false
namespace TryWalk
theorem ofInt_i64 (a : Nat) (ha : a < 64) : (BitVec.ofInt 64 (a : Int)).toNat = a := by
  rw [BitVec.ofInt_natCast, BitVec.toNat_ofNat]; exact Nat.mod_eq_of_lt (by omega)
theorem i64_or {a b : Nat} (ha : a < 64) (hb : b < 64) : bits .or .i64 (a : Int) (b : Int) = ((a ||| b : Nat) : Int) := by
  have hx : a ||| b < 2 ^ 6 := Nat.or_lt_two_pow (by omega) (by omega)
  show IntKind.i64.wrap ((BitVec.ofInt 64 (a : Int) ||| BitVec.ofInt 64 (b : Int)).toNat : Int) = _
  rw [BitVec.toNat_or, ofInt_i64 a ha, ofInt_i64 b hb]
  exact IntWalk.i64_in _ (by omega)
theorem i64_and {a b : Nat} (ha : a < 64) (hb : b < 64) : bits .and .i64 (a : Int) (b : Int) = ((a &&& b : Nat) : Int) := by
  have hx : a &&& b < 2 ^ 6 := Nat.and_lt_two_pow _ (by omega)
  show IntKind.i64.wrap ((BitVec.ofInt 64 (a : Int) &&& BitVec.ofInt 64 (b : Int)).toNat : Int) = _
  rw [BitVec.toNat_and, ofInt_i64 a ha, ofInt_i64 b hb]
  exact IntWalk.i64_in _ (by omega)
def cvB (xs : List Int) (s t : Nat) : Bool := decide (xs.getD s 0 + xs.getD t 0 ≤ xs.getD (s ||| t) 0 + xs.getD (s &&& t) 0)
def convB (xs : List Int) : Bool := (List.range xs.length).all fun s => (List.range xs.length).all fun t => cvB xs s t
theorem convB_no {xs : List Int} {s t : Nat} (hs : s < xs.length) (ht : t < xs.length) (h : cvB xs s t = false) : convB xs = false := by
  unfold convB
  rw [List.all_eq_false]
  refine ⟨s, List.mem_range.mpr hs, ?_⟩
  rw [Bool.not_eq_true, List.all_eq_false]
  exact ⟨t, List.mem_range.mpr ht, by rw [h]; simp⟩
theorem convB_yes {xs : List Int} (h : ∀ s, s < xs.length → ∀ t, t < xs.length → cvB xs s t = true) : convB xs = true := by
  unfold convB
  rw [List.all_eq_true]
  intro s hs
  rw [List.all_eq_true]
  intro t ht
  exact h s (List.mem_range.mp hs) t (List.mem_range.mp ht)
/-- Four cells and what is to be known of them. -/
structure Four (xs : List Int) (w : World) (b off len s t : Nat) (o d : Nat) (v1 v2 v3 v4 : Int) : Prop where
  ob : o < len
  db : d < len
  o2 : bits .or .i64 (s : Int) (t : Int) = (o : Int)
  d2 : bits .and .i64 (s : Int) (t : Int) = (d : Int)
  c1 : w.cell? ⟨b, off + s, none⟩ = some (.int .i64 v1)
  c2 : w.cell? ⟨b, off + t, none⟩ = some (.int .i64 v2)
  c3 : w.cell? ⟨b, off + o, none⟩ = some (.int .i64 v3)
  c4 : w.cell? ⟨b, off + d, none⟩ = some (.int .i64 v4)
  l1 : -10000 ≤ v1 ∧ v1 ≤ 10000
  l2 : -10000 ≤ v2 ∧ v2 ≤ 10000
  l3 : -10000 ≤ v3 ∧ v3 ≤ 10000
  l4 : -10000 ≤ v4 ∧ v4 ≤ 10000
  cv : cvB xs s t = decide (v1 + v2 ≤ v3 + v4)
theorem four {p : Nat} {xs : List Int} {w : World} {b off len s t : Nat} (hp : p ≤ 6) (hlen : len = 2 ^ p) (hl : xs.length = len) (hall : ∀ n ∈ xs, -10000 ≤ n ∧ n ≤ 10000) (hc : ∀ i, i < len → w.cell? ⟨b, off + i, none⟩ = some (.int .i64 (xs.getD i 0))) (hs : s < len) (ht : t < len) : ∃ o d v1 v2 v3 v4, Four xs w b off len s t o d v1 v2 v3 v4 := by
  have h64 : len ≤ 64 := by rw [hlen]; exact Nat.pow_le_pow_right (by decide) hp
  have ho : s ||| t < len := by rw [hlen] at *; exact Nat.or_lt_two_pow hs ht
  have hd : s &&& t < len := by rw [hlen] at *; exact Nat.and_lt_two_pow _ ht
  have hb : ∀ i, i < len → -10000 ≤ xs.getD i 0 ∧ xs.getD i 0 ≤ 10000 := fun i hi => by
    rw [List.getD_eq_getElem?_getD, List.getElem?_eq_getElem (by omega)]
    exact hall _ (List.getElem_mem _)
  exact ⟨s ||| t, s &&& t, _, _, _, _, ho, hd, i64_or (by omega) (by omega), i64_and (by omega) (by omega), hc s hs, hc t ht, hc _ ho, hc _ hd, hb s hs, hb t ht, hb _ ho, hb _ hd, rfl⟩
theorem validW_parts {p : Int} {xs : List Int} (h : validW p xs = true) : ∃ pn : Nat, p = pn ∧ pn ≤ 6 ∧ xs.length = 2 ^ pn ∧ ∀ n ∈ xs, -10000 ≤ n ∧ n ≤ 10000 := by
  unfold validW inB at h
  simp only [Bool.and_eq_true, decide_eq_true_eq, List.all_eq_true] at h
  obtain ⟨⟨⟨⟨h1, h2⟩, h3⟩, h4⟩, h5⟩ := h
  obtain ⟨pn, rfl⟩ := Int.eq_ofNat_of_zero_le (show 0 ≤ p by omega)
  exact ⟨pn, rfl, by omega, by simp only [Int.toNat_natCast] at h3; exact_mod_cast h3, h5⟩
def RetBB (a b : Bool) (w : World) (e : Ending) (w' : World) : Prop := e = .returned (.tuple #[.bool a, .bool b]) ∧ Below w.heap.size w w'
set_option maxHeartbeats 2000000 in
theorem imConvex1 (pn : Nat) (p : Int) (a : Option Addr) (len cap : Nat) (xs : List Int) (k s t : Nat) (w : World) (hp : pn ≤ 6) (hlen : len = 2 ^ pn) (hall : ∀ n ∈ xs, -10000 ≤ n ∧ n ≤ 10000) (hbox : Box w k [.int .i64 p, .slice a len cap]) (h : SlV (Value.int .i64) w a len xs) (hs : s < len) (ht : t < len) : Calls Try.prog 88 #[.int .i64 s, .int .i64 t, .pointer (some ⟨k, 0, none⟩)] w (RetB (cvB xs s t) w) := by
  have f1 := (hbox.2 1 _ rfl).1
  clear hbox
  obtain ⟨b, off, rfl, hb, hc⟩ := h.2 (by omega)
  obtain ⟨o, d, v1, v2, v3, v4, F⟩ := four hp hlen h.1 hall hc hs ht
  obtain ⟨ob, db, o2, d2, c1, c2, c3, c4, ⟨l1, m1⟩, ⟨l2, m2⟩, ⟨l3, m3⟩, ⟨l4, m4⟩, cv⟩ := F
  rw [cv]
  have h64 : len ≤ 64 := by rw [hlen]; exact Nat.pow_le_pow_right (by decide) hp
  clear hc cv h hall hlen
  have i1 : (0 : Int) ≤ (s : Int) := by omega
  have i2 : (s : Int) < (len : Int) := by omega
  have i3 : (0 : Int) ≤ (t : Int) := by omega
  have i4 : (t : Int) < (len : Int) := by omega
  have i5 : (0 : Int) ≤ (o : Int) := by omega
  have i6 : (o : Int) < (len : Int) := by omega
  have i7 : (0 : Int) ≤ (d : Int) := by omega
  have i8 : (d : Int) < (len : Int) := by omega
  have w1 : IntKind.i64.wrap (v1 + v2) = v1 + v2 := IntWalk.i64_in _ (by omega)
  have w2 : IntKind.i64.wrap (v3 + v4) = v3 + v4 := IntWalk.i64_in _ (by omega)
  go_enter Try.func88, Try.ntmps88
  go_wp2_with fail
  go_quiet (fail)
  go_wp2_with fail
  go_ret
  exact ⟨rfl, _, rfl⟩
set_option maxHeartbeats 2000000 in
theorem spConvex (p : Int) (a : Option Addr) (len cap : Nat) (xs : List Int) (w : World) (h : SlV (Value.int .i64) w a len xs) (hl : len ≤ 1048576) : Calls Try.prog 40 #[.agg #[.int .i64 p, .slice a len cap]] w (RetBB (validW p xs && convB xs) (validW p xs) w) := by
  have bw : Below w.heap.size w (w.alloc (.cells #[.int .i64 p, .slice a len cap] 27)) := Below.alloc (Below.refl _ _) (Nat.le_refl _) _
  have hbox : Box (w.alloc (.cells #[.int .i64 p, .slice a len cap] 27)) w.heap.size [.int .i64 p, .slice a len cap] := Box.new _ _ _
  have BW := hid bw
  have HBOX := hid hbox
  have HIS := hid (l03Is p a len cap xs _ _ hbox (h.below bw) hl)
  have H := hid h
  cases hv : validW p xs with
  | false =>
    rw [hv] at HIS
    rw [Bool.false_and]
    clear hbox h
    go_enter Try.func40, Try.ntmps40
    go_wp2_with fail
    refine HIS.out.mono ?_
    rintro e w' ⟨rfl, n, rfl⟩
    go_wp2_with fail
    go_ret2
    exact ⟨rfl, below_drewN bw n⟩
  | true =>
    rw [hv] at HIS
    rw [Bool.true_and]
    obtain ⟨pn, rfl, hp, hlen, hall⟩ := validW_parts hv
    have hlen : len = 2 ^ pn := by rw [← h.1]; exact hlen
    have h64 : len ≤ 64 := by rw [hlen]; exact Nat.pow_le_pow_right (by decide) hp
    have HLEN := hid hlen
    have HALL := hid hall
    clear hbox h hlen hall bw hv
    obtain ⟨d, hd⟩ : ∃ d, convB xs = d := ⟨_, rfl⟩
    rw [hd]
    have HD := hid hd
    clear hd
    go_enter Try.func40, Try.ntmps40
    go_wp2_with fail
    refine HIS.out.mono ?_
    rintro e wq ⟨rfl, n, hwq⟩
    have bwq : Below w.heap.size w wq := by rw [hwq]; exact below_drewN BW.out n
    have hbq : Box wq w.heap.size [.int .i64 pn, .slice a len cap] := by rw [hwq]; exact HBOX.out.dr n
    have HB := hid bwq
    have HX := hid hbq
    have HS := hid (H.out.below bwq)
    clear hwq bwq
    have f1 := (hbq.2 1 _ rfl).1
    clear hbq
    go_wp2_with fail
    go_loopw [4, 5, 11, 17] (fun x y i z wr => ∃ j n : Nat, j ≤ len ∧ i = .int .i64 j ∧ wr = wq.drewN n ∧ ∀ s, s < j → ∀ t, t < len → cvB xs s t = true) (fun _ _ i _ _ => len - (intOf i).toNat)
    case atStart => exact ⟨0, 0, Nat.zero_le _, rfl, rfl, fun s hs => absurd hs (Nat.not_lt_zero _)⟩
    case round =>
      obtain ⟨j, n, hj, rfl, rfl, hall⟩ := hrel
      have HA := hid hall
      clear hall
      by_cases hlt : j < len
      · go_wp2_with fail
        go_loopw [5, 17] (fun y i wr => ∃ q n : Nat, q ≤ len ∧ i = .int .i64 q ∧ wr = wq.drewN n ∧ ∀ t, t < q → cvB xs j t = true) (fun _ i _ => len - (intOf i).toNat)
        case atStart => exact ⟨0, n, Nat.zero_le _, rfl, rfl, fun s hs => absurd hs (Nat.not_lt_zero _)⟩
        case round =>
          obtain ⟨q, n2, hq, rfl, rfl, hall⟩ := hrel
          have HA2 := hid hall
          clear hall
          by_cases hlq : q < len
          · obtain ⟨b, off, rfl, hb, hc⟩ := HS.out.2 (by omega)
            obtain ⟨o, d1, v1, v2, v3, v4, F⟩ := four hp HLEN.out HS.out.1 HALL.out hc hlt hlq
            obtain ⟨ob, db, o2, d2, c1, c2, c3, c4, ⟨l1, m1⟩, ⟨l2, m2⟩, ⟨l3, m3⟩, ⟨l4, m4⟩, cv⟩ := F
            have HCV := hid cv
            clear hc cv
            have i1 : (0 : Int) ≤ (j : Int) := by omega
            have i2 : (j : Int) < (len : Int) := by omega
            have i3 : (0 : Int) ≤ (q : Int) := by omega
            have i4 : (q : Int) < (len : Int) := by omega
            have i5 : (0 : Int) ≤ (o : Int) := by omega
            have i6 : (o : Int) < (len : Int) := by omega
            have i7 : (0 : Int) ≤ (d1 : Int) := by omega
            have i8 : (d1 : Int) < (len : Int) := by omega
            have w1 : IntKind.i64.wrap (v1 + v2) = v1 + v2 := IntWalk.i64_in _ (by omega)
            have w2 : IntKind.i64.wrap (v3 + v4) = v3 + v4 := IntWalk.i64_in _ (by omega)
            by_cases hcv : v1 + v2 ≤ v3 + v4
            · have hcn : ¬ (v3 + v4 < v1 + v2) := by omega
              have HT : Hid (cvB xs j q = true) := hid (by rw [HCV.out]; simpa using hcv)
              go_wp2_with fail
              go_quiet (fail)
              go_wp2_with fail
              go_roundw
              case rel => exact ⟨q + 1, _, by omega, by go_num, rfl, fun t ht => by
                rcases Nat.lt_succ_iff_lt_or_eq.mp ht with h | h
                · exact HA2.out t h
                · subst h; exact HT.out⟩
              case measure => simp [intOf]; omega
            · have hcn : v3 + v4 < v1 + v2 := by omega
              obtain rfl : d = false := by
                rw [← HD.out]; exact convB_no (s := j) (t := q) (by rw [HS.out.1]; exact hlt) (by rw [HS.out.1]; exact hlq) (by rw [HCV.out]; simpa using hcn)
              go_wp2_with fail
              go_quiet (fail)
              go_wp2_with fail
              go_ret2
              exact ⟨rfl, by first | exact below_drewN HB.out _ | exact below_drewN (below_drewN HB.out _) _⟩
          · obtain rfl : q = len := by omega
            go_wp2_with fail
            go_roundw
            case rel => exact ⟨j + 1, _, by omega, by go_num, rfl, fun s hs t ht => by
              rcases Nat.lt_succ_iff_lt_or_eq.mp hs with h | h
              · exact HA.out s h t ht
              · subst h; exact HA2.out t ht⟩
            case measure => simp [intOf]; omega
      · obtain rfl : j = len := by omega
        obtain rfl : d = true := by
          rw [← HD.out]; exact convB_yes (fun s hs t ht => HA.out s (by rw [← HS.out.1]; exact hs) t (by rw [← HS.out.1]; exact ht))
        go_wp2_with fail
        go_ret2
        exact ⟨rfl, below_drewN HB.out _⟩
set_option maxHeartbeats 2000000 in
theorem imAlways (p : Int) (a : Option Addr) (len cap : Nat) (xs : List Int) (k : Nat) (w : World) (hbx : Box w k [.int .i64 p, .slice a len cap]) (h : SlV (Value.int .i64) w a len xs) (hl : len ≤ 1048576) : Calls Try.prog 87 #[.agg #[.int .i64 p, .slice a len cap], .func (.func 88) #[] #[.pointer (some ⟨k, 0, none⟩)]] w (RetBB (validW p xs && convB xs) (validW p xs) w) := by
  have bw : Below w.heap.size w (w.alloc (.cells #[.int .i64 p, .slice a len cap] 27)) := Below.alloc (Below.refl _ _) (Nat.le_refl _) _
  have hbox : Box (w.alloc (.cells #[.int .i64 p, .slice a len cap] 27)) w.heap.size [.int .i64 p, .slice a len cap] := Box.new _ _ _
  have BW := hid bw
  have HBOX := hid hbox
  have HBX := hid hbx
  clear hbx
  have HIS := hid (imValidW p a len cap xs _ (h.below bw) hl)
  have H := hid h
  cases hv : validW p xs with
  | false =>
    rw [hv] at HIS
    rw [Bool.false_and]
    clear hbox h
    go_enter Try.func87, Try.ntmps87
    go_wp2_with fail
    refine HIS.out.mono ?_
    rintro e w' ⟨rfl, b1⟩
    have bw1 := below_to bw b1
    go_wp2_with fail
    go_ret2
    exact ⟨rfl, bw1⟩
  | true =>
    rw [hv] at HIS
    rw [Bool.true_and]
    obtain ⟨pn, rfl, hp, hlen, hall⟩ := validW_parts hv
    have hlen : len = 2 ^ pn := by rw [← h.1]; exact hlen
    have h64 : len ≤ 64 := by rw [hlen]; exact Nat.pow_le_pow_right (by decide) hp
    have HLEN := hid hlen
    have HALL := hid hall
    clear hbox h hlen hall bw hv
    obtain ⟨d, hd⟩ : ∃ d, convB xs = d := ⟨_, rfl⟩
    rw [hd]
    have HD := hid hd
    clear hd
    go_enter Try.func87, Try.ntmps87
    go_wp2_with fail
    refine HIS.out.mono ?_
    rintro e wq ⟨rfl, b1⟩
    have bwq : Below w.heap.size w wq := below_to BW.out b1
    have hbq : Box wq w.heap.size [.int .i64 pn, .slice a len cap] := HBOX.out.below b1
    have HB := hid bwq
    have HX := hid (HBX.out.below bwq)
    have HS := hid (H.out.below bwq)
    clear b1 bwq
    have f1 := (hbq.2 1 _ rfl).1
    clear hbq
    go_wp2_with fail
    go_loopw [6, 7, 14, 20] (fun x y i z wr => ∃ j n : Nat, j ≤ len ∧ i = .int .i64 j ∧ wr = wq.drewN n ∧ ∀ s, s < j → ∀ t, t < len → cvB xs s t = true) (fun _ _ i _ _ => len - (intOf i).toNat)
    case atStart => exact ⟨0, 0, Nat.zero_le _, rfl, rfl, fun s hs => absurd hs (Nat.not_lt_zero _)⟩
    case round =>
      obtain ⟨j, n, hj, rfl, rfl, hall⟩ := hrel
      have HA := hid hall
      clear hall
      by_cases hlt : j < len
      · go_wp2_with fail
        go_loopw [7, 20] (fun y i wr => ∃ q n : Nat, q ≤ len ∧ i = .int .i64 q ∧ wr = wq.drewN n ∧ ∀ t, t < q → cvB xs j t = true) (fun _ i _ => len - (intOf i).toNat)
        case atStart => exact ⟨0, n, Nat.zero_le _, rfl, rfl, fun s hs => absurd hs (Nat.not_lt_zero _)⟩
        case round =>
          obtain ⟨q, n2, hq, rfl, rfl, hall⟩ := hrel
          have HA2 := hid hall
          clear hall
          by_cases hlq : q < len
          · have hcl := imConvex1 pn pn a len cap xs k j q (wq.drewN n2) hp HLEN.out HALL.out (HX.out.dr n2) (HS.out.drewN n2) hlt hlq
            obtain ⟨c, hc⟩ : ∃ c, cvB xs j q = c := ⟨_, rfl⟩
            rw [hc] at hcl
            have HC := hid hc
            have HCL := hid hcl
            clear hc hcl
            cases c with
            | true =>
              go_wp2_with (go_at_call 88; refine HCL.out.mono ?_; rintro e w' ⟨rfl, m, rfl⟩)
              go_roundw
              case rel => exact ⟨q + 1, n2 + m, by omega, by go_num, by first | rfl | exact World.drewN_drewN .., fun t ht => by
                rcases Nat.lt_succ_iff_lt_or_eq.mp ht with h | h
                · exact HA2.out t h
                · subst h; exact HC.out⟩
              case measure => simp [intOf]; omega
            | false =>
              obtain rfl : d = false := by
                rw [← HD.out]; exact convB_no (s := j) (t := q) (by rw [HS.out.1]; exact hlt) (by rw [HS.out.1]; exact hlq) HC.out
              go_wp2_with (go_at_call 88; refine HCL.out.mono ?_; rintro e w' ⟨rfl, m, rfl⟩)
              go_ret2
              exact ⟨rfl, below_drewN HB.out (n2 + m)⟩
          · obtain rfl : q = len := by omega
            go_wp2_with fail
            go_roundw
            case rel => exact ⟨j + 1, _, by omega, by go_num, rfl, fun s hs t ht => by
              rcases Nat.lt_succ_iff_lt_or_eq.mp hs with h | h
              · exact HA.out s h t ht
              · subst h; exact HA2.out t ht⟩
            case measure => simp [intOf]; omega
      · obtain rfl : j = len := by omega
        obtain rfl : d = true := by
          rw [← HD.out]; exact convB_yes (fun s hs t ht => HA.out s (by rw [← HS.out.1]; exact hs) t (by rw [← HS.out.1]; exact ht))
        go_wp2_with fail
        go_ret2
        exact ⟨rfl, below_drewN HB.out _⟩
set_option maxHeartbeats 1000000 in
theorem imConvex (p : Int) (a : Option Addr) (len cap : Nat) (xs : List Int) (w : World) (h : SlV (Value.int .i64) w a len xs) (hl : len ≤ 1048576) : Calls Try.prog 41 #[.agg #[.int .i64 p, .slice a len cap]] w (RetBB (validW p xs && convB xs) (validW p xs) w) := by
  have hmf : ∀ (fn : Fn) (first cap : Array Value) (w : World), (Instr.makeFunc fn first cap).run Try.prog w = .ok (.func fn first cap) w := fun _ _ _ _ => rfl
  have bw : Below w.heap.size w (w.alloc (.cells #[.int .i64 p, .slice a len cap] 27)) := Below.alloc (Below.refl _ _) (Nat.le_refl _) _
  have hbox : Box (w.alloc (.cells #[.int .i64 p, .slice a len cap] 27)) w.heap.size [.int .i64 p, .slice a len cap] := Box.new _ _ _
  have HAL := hid (imAlways p a len cap xs _ _ hbox (h.below bw) hl)
  clear hbox h
  obtain ⟨d1, hd1⟩ : ∃ d, (validW p xs && convB xs) = d := ⟨_, rfl⟩
  obtain ⟨d2, hd2⟩ : ∃ d, validW p xs = d := ⟨_, rfl⟩
  rw [hd1, hd2] at HAL
  rw [hd1, hd2]
  clear hd1 hd2
  go_enter Try.func41, Try.ntmps41
  go_wp2_with (go_at_call 87; refine HAL.out.mono ?_; rintro e w1 ⟨rfl, b1⟩; have bw1 := below_to bw b1)
  go_ret2
  exact ⟨rfl, bw1⟩
theorem bothConvex (p : Int) (_ : (Lit.int .i64 p).wf = true) (la : Nat) (xs : List Int) (hla : la ≤ 1048576) (_ : ∀ n ∈ xs, (Lit.int .i64 n).wf = true) :
    ∃ (F0 F1 : Bool), ∀ (a : Option Addr) (ca : Nat) (w : World), SlV (Value.int .i64) w a la xs →
      Calls Try.prog 40 #[.agg #[.int .i64 p, .slice a la ca]] w (RetBB F0 F1 w) ∧ Calls Try.prog 41 #[.agg #[.int .i64 p, .slice a la ca]] w (RetBB F0 F1 w) :=
  ⟨_, _, fun a ca w h => ⟨spConvex p a la ca xs w h hla, imConvex p a la ca xs w h hla⟩⟩
set_option maxHeartbeats 4000000 in
theorem fnExactIsConvex (p00 : Int) (a00 : Option Addr) (l00 c00 : Nat) (x00 : List Int) (w : World) (hwp00 : (Lit.int .i64 p00).wf = true) (hra00 : IsRow .i64 w a00 l00 c00 x00) : Calls Try.prog 8 #[.agg #[.int .i64 p00, .slice a00 l00 c00]] w (RetD true w) := by
  obtain ⟨hsa00, hva00, hma00⟩ := hra00
  have HSa00 := hid hsa00
  have HVa00 := hid hva00
  clear hsa00 hva00
  have HWp00 := hid hwp00
  clear hwp00
  go_enter Try.func8, Try.ntmps8
  go_wp2_with fail
  refine (szWAny p00 a00 l00 c00 1048576 _ (Nat.le_refl _) hma00).mono ?_
  rintro e w1 ⟨r, rfl, b1, (⟨rfl, h1⟩ | ⟨rfl, h1⟩)⟩
  · have bw1 : Below w.heap.size w w1 := below_to (by repeat (first | exact Below.refl _ _ | with_reducible assumption | refine Below.alloc ?_ (by simp <;> omega) _)) b1
    go_wp2_with fail
    go_ret
    exact ⟨rfl, bw1⟩
  have bw1 : Below w.heap.size w w1 := below_to (by repeat (first | exact Below.refl _ _ | with_reducible assumption | refine Below.alloc ?_ (by simp <;> omega) _)) b1
  have bx0 : Box w1 (w.heap.size) [.int .i64 p00, .slice a00 l00 c00] := (show Box _ (w.heap.size) _ from by simpa using Box.new w [.int .i64 p00, .slice a00 l00 c00] 24).below b1
  have hla00 : l00 ≤ 1048576 := by omega
  obtain ⟨m1, hm1⟩ : ∃ m, 1048576 - (l00) = m := ⟨_, rfl⟩
  have hmm1 : m1 ≤ 1048576 := by omega
  rw [hm1]
  clear b1 h1 hm1
  obtain ⟨F0, F1, hboth⟩ := bothConvex p00 HWp00.out l00 x00 hla00 HVa00.out
  have HBOTH := hid hboth
  clear hboth
  have hFF0 : (F0 != F0) = false := by simp
  have hFF1 : (F1 != F1) = false := by simp
  have f0 := (bx0.2 0 _ rfl).1
  have f1 := (bx0.2 1 _ rfl).1
  go_upto_region 5 with (fail)
  go_cut [4, 5] (fun sv4 sv5 wx => sv4 = .bool F0 ∧ sv5 = .bool F1 ∧ Box wx (w.heap.size) [.int .i64 p00, .slice a00 l00 c00] ∧ Below w.heap.size w wx)
  case first =>
    go_wp2_with fail
    refine (toW p00 a00 l00 c00 x00 _ (HSa00.out.below bw1) hla00).mono ?_
    rintro e wa ⟨Aa00, rfl, sa00, ba⟩
    have bx0 := bx0.below ba
    have bwa : Below w.heap.size w wa := below_to bw1 ba
    clear f0 f1
    have f0 := (bx0.2 0 _ rfl).1
    have f1 := (bx0.2 1 _ rfl).1
    go_wp2_with fail
    refine (HBOTH.out _ _ _ sa00).1.mono ?_
    rintro e wb ⟨rfl, bb⟩
    have bx0 := bx0.below bb
    have bwb : Below w.heap.size w wb := below_to bwa bb
    go_wp2_with fail
    go_meet
    exact ⟨rfl, rfl, bx0, bwb⟩
  case rest =>
    obtain ⟨rfl, rfl, bx0, bc⟩ := hcut
    have f0 := (bx0.2 0 _ rfl).1
    have f1 := (bx0.2 1 _ rfl).1
    go_wp2_with fail
    refine (toW p00 a00 l00 c00 x00 _ (HSa00.out.below bc) hla00).mono ?_
    rintro e wy0 ⟨Ba00, rfl, ta00, b⟩
    clear f0 f1
    have bx0 := bx0.below b
    have by0 : Below w.heap.size w wy0 := below_to bc b
    clear b
    have hal : Below wy0.heap.size wy0 (wy0.alloc (.cells #[.int .i64 p00, .slice Ba00 l00 l00] 27)) := Below.alloc (Below.refl _ _) (Nat.le_refl _) _
    have bx0 := bx0.below hal
    have ex0 : Box (wy0.alloc (.cells #[.int .i64 p00, .slice Ba00 l00 l00] 27)) wy0.heap.size [.int .i64 p00, .slice Ba00 l00 l00] := Box.new _ _ _
    have ta00 := ta00.below hal
    have byl0 : Below w.heap.size w (wy0.alloc (.cells #[.int .i64 p00, .slice Ba00 l00 l00] 27)) := below_to by0 hal
    clear hal
    go_wp2_with fail
    refine (HBOTH.out _ _ _ ta00).2.mono ?_
    rintro e wi ⟨rfl, b⟩
    have bx0 := bx0.below b
    have ex0 := ex0.below b
    have ta00 := ta00.below b
    have bi : Below w.heap.size w wi := below_to byl0 b
    clear b
    have f0 := (bx0.2 0 _ rfl).1
    have f1 := (bx0.2 1 _ rfl).1
    have g0 := (ex0.2 0 _ rfl).1
    have g1 := (ex0.2 1 _ rfl).1
    go_upto_region 10 with (fail)
    go_cut [39] (fun sv wx => sv = .bool false ∧ Box wx (w.heap.size) [.int .i64 p00, .slice a00 l00 c00] ∧ Below w.heap.size w wx)
    case first =>
      go_region_with (first
        | (go_at_call 23
           refine (toW p00 a00 l00 c00 x00 _ (HSa00.out.below bi.drew) hla00).mono ?_
           rintro e we ⟨Ea00, rfl, ua00, b⟩
           have bx0 := (Box.d1 bx0).below b
           have ex0 := (Box.d1 ex0).below b
           have ta00 := (ta00.below (Below.refl _ _).drew).below b
           have be : Below w.heap.size w we := below_to bi.drew b
           have f0 := (bx0.2 0 _ rfl).1
           have f1 := (bx0.2 1 _ rfl).1
           have g0 := (ex0.2 0 _ rfl).1
           have g1 := (ex0.2 1 _ rfl).1)
        | (go_at_call 25
           refine (eqWSelf p00 _ _ l00 _ _ x00 _ ta00 ua00 hla00).mono ?_
           rintro e wf ⟨rfl, b⟩
           have bx0 := bx0.below b
           have bf : Below w.heap.size w wf := below_to be b))
      all_goals (go_wp2_with fail; go_meet; exact ⟨rfl, bx0, bf⟩)
    case rest =>
    clear f0 f1
    clear g0 g1
    clear bx0 ex0 ta00
    obtain ⟨rfl, bx0, bk0⟩ := hcut
    go_wp2_with fail
    go_ret
    exact ⟨rfl, bk0⟩
end TryWalk
end Go.Proofs.Ytlbmmecjiopbbaa
