/- Games: two machines: the sums of the gains over a round: the program's side. No condition. -/
import Derived.Test.YtlbmmecjiopbbaaWm1
namespace Go.Proofs.Ytlbmmecjiopbbaa
open Go.RowKit Flo Sl Pg
set_option linter.unusedVariables false
set_option linter.unusedSimpArgs false
namespace TryWalk
set_option maxRecDepth 100000 in
set_option maxHeartbeats 8000000 in
theorem imMeanNo (r c : Int) (a : Option Addr) (la ca : Nat) (xs : List Int) (b : Option Addr) (lb cb : Nat) (ys : List Int) (m1 : Option Addr) (n1 k1 : Nat) (am : List Int) (m2 : Option Addr) (n2 k2 : Nat) (an : List Int) (m3 : Option Addr) (n3 k3 : Nat) (bm : List Int) (m4 : Option Addr) (n4 k4 : Nat) (bn : List Int) (w : World)
    (hA : SlV (Value.int .i64) w a la xs) (hB : SlV (Value.int .i64) w b lb ys) (h1 : SlV (Value.int .i64) w m1 n1 am) (h2 : SlV (Value.int .i64) w m2 n2 an) (h3 : SlV (Value.int .i64) w m3 n3 bm) (h4 : SlV (Value.int .i64) w m4 n4 bn)
    (hla : la ≤ 1048576) (hlb : lb ≤ 1048576) (l1 : n1 ≤ 1048576) (l2 : n2 ≤ 1048576) (l3 : n3 ≤ 1048576) (l4 : n4 ≤ 1048576) (hv : twoB r c xs ys am an bm bn = false) : Calls Try.prog 75 #[.agg #[.int .i64 r, .int .i64 c, .slice a la ca, .slice b lb cb], .agg #[.slice m1 n1 k1, .slice m2 n2 k2], .agg #[.slice m3 n3 k3, .slice m4 n4 k4]] w (RetX (.tuple #[.int .i64 0, .int .i64 0, .int .i64 0, .bool false]) w) := by
  obtain ⟨W3, hW3⟩ : ∃ W3, ((w.alloc (.cells #[.int .i64 r, .int .i64 c, .slice a la ca, .slice b lb cb] 44)).alloc (.cells #[.slice m1 n1 k1, .slice m2 n2 k2] 36)).alloc (.cells #[.slice m3 n3 k3, .slice m4 n4 k4] 36) = W3 := ⟨_, rfl⟩
  have hb0 : Below w.heap.size w W3 := by rw [← hW3]; repeat (first | exact Below.refl _ _ | refine Below.alloc ?_ (by simp <;> omega) _)
  have HT := hid (imRoundNo r c a la ca xs b lb cb ys m1 n1 k1 am m2 n2 k2 an m3 n3 k3 bm m4 n4 k4 bn W3 (hA.below hb0) (hB.below hb0) (h1.below hb0) (h2.below hb0) (h3.below hb0) (h4.below hb0) hla hlb l1 l2 l3 l4 hv)
  have HW3 := hid hW3
  have HB0 := hid hb0
  clear hW3 hb0 hA hB h1 h2 h3 h4 hv
  go_enter Try.func75, Try.ntmps75
  go_wp2_with fail
  rw [HW3.out]
  refine HT.out.mono ?_
  rintro e w4 ⟨rfl, hb4⟩
  have HB4 := hid (below_to HB0.out hb4)
  clear hb4
  go_wp2_with fail
  exact bodyPost_ret (v := .tuple #[.int .i64 0, .int .i64 0, .int .i64 0, .bool false]) (by simp [results, Try.results75, go_sem]) rfl ⟨rfl, HB4.out⟩
set_option maxRecDepth 100000 in
set_option maxHeartbeats 8000000 in
theorem imMeanYes (P : Pl) (hP : P.Ok) (i0 n0 : Nat) (hR : Pm.Rep P.st i0 n0) (h64 : n0 ≤ 64) (a : Option Addr) (la ca : Nat) (xs : List Int) (b : Option Addr) (lb cb : Nat) (ys : List Int) (m1 : Option Addr) (k1 : Nat) (m2 : Option Addr) (n2 k2 : Nat) (m3 : Option Addr) (k3 : Nat) (m4 : Option Addr) (n4 k4 : Nat) (w : World)
    (hA : SlV (Value.int .i64) w a la xs) (hB : SlV (Value.int .i64) w b lb ys) (h1 : SlV (Value.int .i64) w m1 P.na P.am) (h2 : SlV (Value.int .i64) w m2 n2 P.an) (h3 : SlV (Value.int .i64) w m3 P.nb P.bm) (h4 : SlV (Value.int .i64) w m4 n4 P.bn)
    (hla : la ≤ 1048576) (hlb : lb ≤ 1048576) (hv : twoB P.rn P.cn xs ys P.am P.an P.bm P.bn = true) : Calls Try.prog 75 #[.agg #[.int .i64 P.rn, .int .i64 P.cn, .slice a la ca, .slice b lb cb], .agg #[.slice m1 P.na k1, .slice m2 n2 k2], .agg #[.slice m3 P.nb k3, .slice m4 n4 k4]] w (RetX (.tuple #[.int .i64 (P.sum xs i0 (n0 - i0)), .int .i64 (P.sum ys i0 (n0 - i0)), .int .i64 ((n0 - i0 : Nat) : Int), .bool true]) w) := by
  have z2 : n2 = P.na * P.cn := by rw [← h2.1]; exact hP.lan
  have z4 : n4 = P.nb * P.rn := by rw [← h4.1]; exact hP.lbn
  have l2 : n2 ≤ 1048576 := by rw [z2]; have : P.na * P.cn ≤ 48 := Nat.mul_le_mul hP.a2 hP.c2; omega
  have l4 : n4 ≤ 1048576 := by rw [z4]; have : P.nb * P.rn ≤ 48 := Nat.mul_le_mul hP.b2 hP.r2; omega
  obtain ⟨W3, hW3⟩ : ∃ W3, ((w.alloc (.cells #[.int .i64 P.rn, .int .i64 P.cn, .slice a la ca, .slice b lb cb] 44)).alloc (.cells #[.slice m1 P.na k1, .slice m2 n2 k2] 36)).alloc (.cells #[.slice m3 P.nb k3, .slice m4 n4 k4] 36) = W3 := ⟨_, rfl⟩
  have hb0 : Below w.heap.size w W3 := by rw [← hW3]; repeat (first | exact Below.refl _ _ | refine Below.alloc ?_ (by simp <;> omega) _)
  have hl1 : P.na ≤ 1048576 := by have := hP.a2; omega
  have hl3 : P.nb ≤ 1048576 := by have := hP.b2; omega
  have x0 : Box W3 w.heap.size [.int .i64 P.rn, .int .i64 P.cn, .slice a la ca, .slice b lb cb] := by rw [← hW3]; exact ((Box.new w [.int .i64 P.rn, .int .i64 P.cn, .slice a la ca, .slice b lb cb] 44).al _).al _
  have x1 : Box W3 (w.heap.size + 1) [.slice m1 P.na k1, .slice m2 n2 k2] := by rw [← hW3]; have := (Box.new (w.alloc (.cells #[.int .i64 P.rn, .int .i64 P.cn, .slice a la ca, .slice b lb cb] 44)) [.slice m1 P.na k1, .slice m2 n2 k2] 36).al (.cells #[.slice m3 P.nb k3, .slice m4 n4 k4] 36); simpa using this
  have x2 : Box W3 (w.heap.size + 1 + 1) [.slice m3 P.nb k3, .slice m4 n4 k4] := by rw [← hW3]; have := Box.new ((w.alloc (.cells #[.int .i64 P.rn, .int .i64 P.cn, .slice a la ca, .slice b lb cb] 44)).alloc (.cells #[.slice m1 P.na k1, .slice m2 n2 k2] 36)) [.slice m3 P.nb k3, .slice m4 n4 k4] 36; simpa using this
  have HT := hid (imRoundYes P hP i0 n0 hR h64 a la ca xs b lb cb ys m1 k1 m2 n2 k2 m3 k3 m4 n4 k4 W3 (hA.below hb0) (hB.below hb0) (h1.below hb0) (h2.below hb0) (h3.below hb0) (h4.below hb0) hla hlb hv)
  have HPD := hid (fun (w' : World) (hb : Below W3.heap.size W3 w') => paired P.rn P.cn a la ca xs b lb cb ys m1 P.na k1 P.am m2 n2 k2 P.an m3 P.nb k3 P.bm m4 n4 k4 P.bn w' ((hA.below hb0).below hb) ((hB.below hb0).below hb) ((h1.below hb0).below hb) ((h2.below hb0).below hb) ((h3.below hb0).below hb) ((h4.below hb0).below hb) hla hlb hl1 l2 hl3 l4)
  rw [hv] at HPD
  obtain ⟨hLX, hLY, hVX, hVY⟩ := two_len hv
  obtain ⟨pa, oa, rfl, -, hca⟩ := hA.2 (by rw [← hA.1, hLX]; exact Nat.mul_pos hP.r1 hP.c1)
  obtain ⟨pb, ob, rfl, -, hcb⟩ := hB.2 (by rw [← hB.1, hLY]; exact Nat.mul_pos hP.r1 hP.c1)
  have HLA : Hid (la = P.rn * P.cn) := hid (by rw [← hA.1]; exact hLX)
  have HLB : Hid (lb = P.rn * P.cn) := hid (by rw [← hB.1]; exact hLY)
  have HGX : Hid (∀ j, j < la → -1000 ≤ xs.getD j 0 ∧ xs.getD j 0 ≤ 1000) := hid (fun j hj => hVX j (by rw [hA.1]; exact hj))
  have HGY : Hid (∀ j, j < lb → -1000 ≤ ys.getD j 0 ∧ ys.getD j 0 ≤ 1000) := hid (fun j hj => hVY j (by rw [hB.1]; exact hj))
  have HCA := hid (hA.below hb0)
  have HCB := hid (hB.below hb0)
  have HW3 := hid hW3
  have HB0 := hid hb0
  have HX0 := hid x0
  have HX1 := hid x1
  have HX2 := hid x2
  have HS1 := hid (h1.below hb0)
  have HS2 := hid (h2.below hb0)
  have HS3 := hid (h3.below hb0)
  have HS4 := hid (h4.below hb0)
  have HZ2 := hid z2
  have HZ4 := hid z4
  have HP := hid hP
  have HR := hid hR
  have HCL : Hid (∀ n, P.cell (P.st n) < P.rn * P.cn) := hid (fun n => P.cell_lt hP n)
  clear hW3 x0 x1 x2 hb0 hA hB h1 h2 h3 h4 hv z2 z4 hP hR hca hcb hLX hLY hVX hVY
  go_enter Try.func75, Try.ntmps75
  go_wp2_with fail
  rw [HW3.out]
  refine HT.out.mono ?_
  rintro e w4 ⟨rfl, hb4⟩
  have HB4 := hid hb4
  have f0 := ((HX0.out.below hb4).2 0 _ rfl).1
  have f1 := ((HX0.out.below hb4).2 1 _ rfl).1
  have f2 := ((HX0.out.below hb4).2 2 _ rfl).1
  have f3 := ((HX0.out.below hb4).2 3 _ rfl).1
  have f4 := ((HX1.out.below hb4).2 0 _ rfl).1
  have f5 := ((HX1.out.below hb4).2 1 _ rfl).1
  have f6 := ((HX2.out.below hb4).2 0 _ rfl).1
  have f7 := ((HX2.out.below hb4).2 1 _ rfl).1
  clear hb4
  go_wp2_with fail
  refine (HPD.out w4 HB4.out).mono ?_
  rintro e w6 ⟨rfl, hb6⟩
  rw [pairV]
  have hb46 := below_to HB4.out hb6
  clear f0 f1 f2 f3 f4 f5 f6 f7
  obtain ⟨W5, hW5⟩ : ∃ W5, w6.alloc (.cells #[.int .i64 P.rn, .int .i64 P.cn, .slice (some ⟨pa, oa, none⟩) la ca, .slice (some ⟨pb, ob, none⟩) lb cb, .slice m1 P.na k1, .slice m2 n2 k2, .slice m3 P.nb k3, .slice m4 n4 k4, .int .i64 0, .int .i64 0] 113) = W5 := ⟨_, rfl⟩
  have x5 : Box W5 w6.heap.size [.int .i64 P.rn, .int .i64 P.cn, .slice (some ⟨pa, oa, none⟩) la ca, .slice (some ⟨pb, ob, none⟩) lb cb, .slice m1 P.na k1, .slice m2 n2 k2, .slice m3 P.nb k3, .slice m4 n4 k4, .int .i64 (P.st 0).1, .int .i64 (P.st 0).2] := by
    rw [← hW5]
    exact Box.new w6 [.int .i64 P.rn, .int .i64 P.cn, .slice (some ⟨pa, oa, none⟩) la ca, .slice (some ⟨pb, ob, none⟩) lb cb, .slice m1 P.na k1, .slice m2 n2 k2, .slice m3 P.nb k3, .slice m4 n4 k4, .int .i64 0, .int .i64 0] 113
  have b5 : Below W3.heap.size W3 W5 := by rw [← hW5]; exact hb46.trans (Below.alloc (Below.refl _ _) hb46.size _)
  have HS34 := hid hb46.size
  have HX5 := hid x5
  have HB5 := hid b5
  have HW5 := hid hW5
  have hi0 := HR.out.lt
  obtain ⟨z, hz⟩ : ∃ z, n0 - i0 = z := ⟨_, rfl⟩
  rw [hz]
  have HZN := hid hz
  have HZZ : Hid (i0 + z = n0) := hid (by omega)
  clear x5 b5 hW5 hb46 hb6 hz
  go_wp2_with fail
  rw [HW5.out]
  go_loopw [36] (fun t wr => ∃ n : Nat, n ≤ i0 ∧ t = .int .i64 (n : Int) ∧ Box wr w6.heap.size [.int .i64 P.rn, .int .i64 P.cn, .slice (some ⟨pa, oa, none⟩) la ca, .slice (some ⟨pb, ob, none⟩) lb cb, .slice m1 P.na k1, .slice m2 n2 k2, .slice m3 P.nb k3, .slice m4 n4 k4, .int .i64 (P.st n).1, .int .i64 (P.st n).2] ∧ Below W3.heap.size W3 wr) (fun t _ => i0 - (intOf t).toNat)
  case atStart => exact ⟨0, Nat.zero_le _, rfl, HX5.out, HB5.out⟩
  case round =>
    obtain ⟨n, hn, rfl, hbox, hbel⟩ := hrel
    have HBOX := hid hbox
    have HBEL := hid hbel
    clear hbox hbel
    by_cases hlt : n < i0
    · obtain ⟨pna, pnb⟩ := HP.out.st_lt n
      have HST := hid (play P HP.out (P.st n).1 (P.st n).2 pna pnb n2 n4 HZ2.out HZ4.out (.slice (some ⟨pa, oa, none⟩) la ca) (.slice (some ⟨pb, ob, none⟩) lb cb) m1 k1 m2 k2 m3 k3 m4 k4 w6.heap.size wr HBOX.out (HS1.out.below HBEL.out) (HS2.out.below HBEL.out) (HS3.out.below HBEL.out) (HS4.out.below HBEL.out))
      have HN : Hid (P.st (n + 1) = P.nxt ((P.st n).1, (P.st n).2)) := hid rfl
      clear pna pnb
      go_wp2_with (go_at_call 112; refine HST.out.mono ?_; rintro e w7 ⟨rfl, hm7, hx7⟩; have HX7 := hid hx7; have HBL7 := hid (HBEL.out.trans (hm7.below (by have := HS34.out; omega) HBEL.out.size)); clear hm7 hx7)
      go_roundw
      case rel => exact ⟨n + 1, hlt, by go_num, by rw [HN.out]; exact HX7.out, HBL7.out⟩
      case measure => simp [intOf]; omega
    · obtain rfl : n = i0 := by omega
      go_wp2_with fail
      go_loopw [15, 16, 17, 41] (fun x y u t w8 => ∃ k m : Nat, Hid (m = n + k) ∧ k ≤ z ∧ t = .int .i64 (k : Int) ∧ x = .int .i64 (P.sum xs n k) ∧ y = .int .i64 (P.sum ys n k) ∧ Box w8 w6.heap.size [.int .i64 P.rn, .int .i64 P.cn, .slice (some ⟨pa, oa, none⟩) la ca, .slice (some ⟨pb, ob, none⟩) lb cb, .slice m1 P.na k1, .slice m2 n2 k2, .slice m3 P.nb k3, .slice m4 n4 k4, .int .i64 (P.st m).1, .int .i64 (P.st m).2] ∧ Below W3.heap.size W3 w8) (fun _ _ _ t _ => z - (intOf t).toNat)
      case atStart => exact ⟨0, n, hid rfl, Nat.zero_le _, rfl, rfl, rfl, HBOX.out, HBEL.out⟩
      case round =>
        obtain ⟨k, m, HM, hk, rfl, rfl, rfl, hbox, hbel⟩ := hrel
        rename World => w8
        have HBOX8 := hid hbox
        have HBEL8 := hid hbel
        clear hbox hbel
        by_cases hlt2 : k < z
        · obtain ⟨pna, pnb⟩ := HP.out.st_lt m
          have HST := hid (play P HP.out (P.st m).1 (P.st m).2 pna pnb n2 n4 HZ2.out HZ4.out (.slice (some ⟨pa, oa, none⟩) la ca) (.slice (some ⟨pb, ob, none⟩) lb cb) m1 k1 m2 k2 m3 k3 m4 k4 w6.heap.size w8 HBOX8.out (HS1.out.below HBEL8.out) (HS2.out.below HBEL8.out) (HS3.out.below HBEL8.out) (HS4.out.below HBEL8.out))
          have HN : Hid (P.st (m + 1) = P.nxt ((P.st m).1, (P.st m).2)) := hid rfl
          have hc : P.cell ((P.st m).1, (P.st m).2) < P.rn * P.cn := HCL.out m
          have HSX : Hid (P.sum xs n (k + 1) = P.sum xs n k + xs.getD (P.cell ((P.st m).1, (P.st m).2)) 0) := hid (by rw [Pl.sum, HM.out])
          have HSY : Hid (P.sum ys n (k + 1) = P.sum ys n k + ys.getD (P.cell ((P.st m).1, (P.st m).2)) 0) := hid (by rw [Pl.sum, HM.out])
          have q1 := P.sum_bound xs n (fun n => HGX.out _ (by rw [HLA.out]; exact HCL.out n)) k
          have q2 := P.sum_bound ys n (fun n => HGY.out _ (by rw [HLB.out]; exact HCL.out n)) k
          have hk64 : (k : Int) ≤ 64 := by have := HZZ.out; omega
          obtain ⟨c, hcc⟩ : ∃ c, P.cell ((P.st m).1, (P.st m).2) = c := ⟨_, rfl⟩
          rw [hcc] at hc HSX HSY HST
          clear hcc pna pnb
          have hca : (c : Int) < (la : Int) := by rw [HLA.out]; exact_mod_cast hc
          have hcb : (c : Int) < (lb : Int) := by rw [HLB.out]; exact_mod_cast hc
          have v1 := HGX.out c (by omega)
          have v2 := HGY.out c (by omega)
          obtain ⟨u1, hu1⟩ : ∃ u, xs.getD c 0 = u := ⟨_, rfl⟩
          obtain ⟨u2, hu2⟩ : ∃ u, ys.getD c 0 = u := ⟨_, rfl⟩
          have HC2 : Hid (∀ w9, Below W3.heap.size W3 w9 → w9.cell? ⟨pa, oa + c, none⟩ = some (.int .i64 u1) ∧ w9.cell? ⟨pb, ob + c, none⟩ = some (.int .i64 u2)) := hid (fun w9 hb => by
            rw [← hu1, ← hu2]
            constructor
            · obtain ⟨b', o', he, -, h'⟩ := (HCA.out.below hb).2 (by omega)
              obtain ⟨rfl, rfl⟩ : pa = b' ∧ oa = o' := by injection he with he; injection he with h1 h2 h3; exact ⟨h1, h2⟩
              exact h' c (by omega)
            · obtain ⟨b', o', he, -, h'⟩ := (HCB.out.below hb).2 (by omega)
              obtain ⟨rfl, rfl⟩ : pb = b' ∧ ob = o' := by injection he with he; injection he with h1 h2 h3; exact ⟨h1, h2⟩
              exact h' c (by omega))
          obtain ⟨s1, hs1⟩ : ∃ u, P.sum xs n k = u := ⟨_, rfl⟩
          obtain ⟨s2, hs2⟩ : ∃ u, P.sum ys n k = u := ⟨_, rfl⟩
          rw [hu1] at v1 HSX
          rw [hu2] at v2 HSY
          rw [hs1] at q1 HSX ⊢
          rw [hs2] at q2 HSY ⊢
          clear hu1 hu2 hs1 hs2 hc
          have ww1 : IntKind.i64.wrap (s1 + u1) = s1 + u1 := IntWalk.i64_in _ (by omega)
          have ww2 : IntKind.i64.wrap (s2 + u2) = s2 + u2 := IntWalk.i64_in _ (by omega)
          have i1 : (0 : Int) ≤ (c : Int) := by omega
          clear q1 q2 v1 v2
          go_wp2_with (go_at_call 112; refine HST.out.mono ?_; rintro e w9 ⟨rfl, hm7, hx7⟩; have HX7 := hid hx7; have hbl7 := HBEL8.out.trans (hm7.below (by have := HS34.out; omega) HBEL8.out.size); have d2 := (HC2.out w9 hbl7).1; have d3 := (HC2.out w9 hbl7).2; have f2 := ((HX0.out.below hbl7).2 2 _ rfl).1; have f3 := ((HX0.out.below hbl7).2 3 _ rfl).1; have HBL7 := hid hbl7; clear hm7 hx7 hbl7)
          go_roundw
          case rel => exact ⟨k + 1, m + 1, hid (by have := HM.out; omega), hlt2, by go_num, by rw [HSX.out], by rw [HSY.out], by rw [HN.out]; exact HX7.out, HBL7.out⟩
          case measure => simp [intOf]; omega
        · obtain rfl : k = z := by omega
          go_wp2_with fail
          exact bodyPost_ret (v := .tuple #[.int .i64 (P.sum xs n k), .int .i64 (P.sum ys n k), .int .i64 (k : Int), .bool true]) (by simp [results, Try.results75, go_sem]) rfl ⟨by rw [HZN.out], below_to HB0.out HBEL8.out⟩
end TryWalk
end Go.Proofs.Ytlbmmecjiopbbaa
