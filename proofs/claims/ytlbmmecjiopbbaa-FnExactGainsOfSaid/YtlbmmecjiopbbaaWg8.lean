/- Games: the law on valid games. No condition. -/
import Derived.Test.YtlbmmecjiopbbaaWg7
import Derived.Deep.DeepCutAuto
import Derived.Deep.QuietTactic
import Derived.BigQuiet
namespace Go.Proofs.Ytlbmmecjiopbbaa
open Go.RowKit Flo Sl
set_option linter.unusedVariables false
namespace TryWalk
set_option maxHeartbeats 1000000 in
theorem imValidG (r c : Int) (a : Option Addr) (la ca : Nat) (xs : List Int) (b : Option Addr) (lb cb : Nat) (ys : List Int) (w : World) (h : SlV (Value.int .i64) w a la xs) (g : SlV (Value.int .i64) w b lb ys) (hla : la ≤ 1048576) (hlb : lb ≤ 1048576) : Calls Try.prog 39 #[.agg #[.int .i64 r, .int .i64 c, .slice a la ca, .slice b lb cb]] w (RetD (validG r c xs ys) w) := by
  have bw : Below w.heap.size w (w.alloc (.cells #[.int .i64 r, .int .i64 c, .slice a la ca, .slice b lb cb] 44)) := Below.alloc (Below.refl _ _) (Nat.le_refl _) _
  obtain ⟨d, hd⟩ : ∃ d, validG r c xs ys = d := ⟨_, rfl⟩
  rw [hd]
  have HD := hid hd
  have HA := hid h
  have HB := hid g
  obtain ⟨dr, hdr⟩ : ∃ d, inB 1 6 r = d := ⟨_, rfl⟩
  obtain ⟨dc, hdc⟩ : ∃ d, inB 1 6 c = d := ⟨_, rfl⟩
  obtain ⟨da, hda⟩ : ∃ d, gainsB (r * c) xs = d := ⟨_, rfl⟩
  obtain ⟨db, hdb⟩ : ∃ d, gainsB (r * c) ys = d := ⟨_, rfl⟩
  have HDR := hid hdr
  have HDC := hid hdc
  have HDA := hid hda
  have HDB := hid hdb
  have HE : Hid (d = (dr && dc && da && db)) := hid (by rw [← hd, ← hdr, ← hdc, ← hda, ← hdb]; rfl)
  clear hd hdr hdc hda hdb h g
  go_enter Try.func39, Try.ntmps39
  go_wp2_with fail
  refine (isSide r _).mono ?_
  rintro e w' ⟨rfl, rfl⟩
  rw [HDR.out]
  cases dr with
  | false =>
    obtain rfl : d = false := by rw [HE.out]; rfl
    go_wp2_with fail
    go_ret
    exact ⟨rfl, bw⟩
  | true =>
    go_wp2_with fail
    refine (isSide c _).mono ?_
    rintro e w' ⟨rfl, rfl⟩
    rw [HDC.out]
    cases dc with
    | false =>
      obtain rfl : d = false := by rw [HE.out]; rfl
      go_wp2_with fail
      go_ret
      exact ⟨rfl, bw⟩
    | true =>
      go_wp2_with fail
      refine (isGains r c a la ca xs _ HDR.out HDC.out (HA.out.below bw) hla).mono ?_
      rintro e w' ⟨rfl, n, rfl⟩
      rw [HDA.out]
      cases da with
      | false =>
        obtain rfl : d = false := by rw [HE.out]; rfl
        go_wp2_with fail
        go_ret
        exact ⟨rfl, below_drewN bw n⟩
      | true =>
        go_wp2_with fail
        refine (isGains r c b lb cb ys _ HDR.out HDC.out ((HB.out.below bw).drewN n) hlb).mono ?_
        rintro e w' ⟨rfl, n2, rfl⟩
        rw [HDB.out]
        obtain rfl : d = db := by rw [HE.out]; rfl
        go_wp2_with fail
        go_ret
        exact ⟨rfl, below_drewN bw (n + n2)⟩
set_option maxHeartbeats 2000000 in
theorem l02Is (r c : Int) (a : Option Addr) (la ca : Nat) (xs : List Int) (b : Option Addr) (lb cb : Nat) (ys : List Int) (k : Nat) (w : World) (hbox : Box w k [.int .i64 r, .int .i64 c, .slice a la ca, .slice b lb cb]) (h : SlV (Value.int .i64) w a la xs) (g : SlV (Value.int .i64) w b lb ys) (hla : la ≤ 1048576) (hlb : lb ≤ 1048576) : Calls Try.prog 85 #[.pointer (some ⟨k, 0, none⟩)] w (RetB (validG r c xs ys) w) := by
  have f0 := (hbox.2 0 _ rfl).1
  have f1 := (hbox.2 1 _ rfl).1
  have f2 := (hbox.2 2 _ rfl).1
  have f3 := (hbox.2 3 _ rfl).1
  clear hbox
  obtain ⟨d, hd⟩ : ∃ d, validG r c xs ys = d := ⟨_, rfl⟩
  rw [hd]
  have HA := hid h
  have HB := hid g
  obtain ⟨dr, hdr⟩ : ∃ d, inB 1 6 r = d := ⟨_, rfl⟩
  obtain ⟨dc, hdc⟩ : ∃ d, inB 1 6 c = d := ⟨_, rfl⟩
  obtain ⟨da, hda⟩ : ∃ d, gainsB (r * c) xs = d := ⟨_, rfl⟩
  obtain ⟨db, hdb⟩ : ∃ d, gainsB (r * c) ys = d := ⟨_, rfl⟩
  have HDR := hid hdr
  have HDC := hid hdc
  have HDA := hid hda
  have HDB := hid hdb
  have HE : Hid (d = (dr && dc && da && db)) := hid (by rw [← hd, ← hdr, ← hdc, ← hda, ← hdb]; rfl)
  clear hd hdr hdc hda hdb h g
  go_enter Try.func85, Try.ntmps85
  go_wp2_with fail
  refine (l00In r 1 6 _).mono ?_
  rintro e w' ⟨rfl, hw⟩
  rw [hw, HDR.out]
  clear hw w'
  cases dr with
  | false =>
    obtain rfl : d = false := by rw [HE.out]; rfl
    go_wp2_with fail
    go_ret
    exact ⟨rfl, 0, rfl⟩
  | true =>
    go_wp2_with fail
    refine (l00In c 1 6 _).mono ?_
    rintro e w' ⟨rfl, hw⟩
    rw [hw, HDC.out]
    clear hw w'
    cases dc with
    | false =>
      obtain rfl : d = false := by rw [HE.out]; rfl
      go_wp2_with fail
      go_ret
      exact ⟨rfl, 0, rfl⟩
    | true =>
      have hzb := prodB HDR.out HDC.out
      have hlo : 1 ≤ r * c := hzb.1
      have hhi : r * c ≤ 36 := hzb.2
      have H1 : ∀ n, Calls Try.prog 122 #[.slice a la ca, .int .i64 (r * c)] (w.drewN n) (fun e w' => e = .returned (.bool da) ∧ ∃ m, w' = (w.drewN n).drewN m) := fun n => by rw [← HDA.out]; exact l02Gains a la ca xs (r * c) _ (HA.out.drewN n) hla
      have H2 : ∀ n, Calls Try.prog 122 #[.slice b lb cb, .int .i64 (r * c)] (w.drewN n) (fun e w' => e = .returned (.bool db) ∧ ∃ m, w' = (w.drewN n).drewN m) := fun n => by rw [← HDB.out]; exact l02Gains b lb cb ys (r * c) _ (HB.out.drewN n) hlb
      have hzw : IntKind.i64.wrap (r * c) = r * c := IntWalk.i64_in _ (by omega)
      have H1w : ∀ n, Calls Try.prog 122 #[.slice a la ca, .int .i64 (IntKind.i64.wrap (r * c))] (w.drewN n) (fun e w' => e = .returned (.bool da) ∧ ∃ m, w' = (w.drewN n).drewN m) := by rw [hzw]; exact H1
      have H2w : ∀ n, Calls Try.prog 122 #[.slice b lb cb, .int .i64 (IntKind.i64.wrap (r * c))] (w.drewN n) (fun e w' => e = .returned (.bool db) ∧ ∃ m, w' = (w.drewN n).drewN m) := by rw [hzw]; exact H2
      clear hzw hzb
      cases da with
      | false =>
        obtain rfl : d = false := by rw [HE.out]; rfl
        go_wp2_with fail
        go_quiet (first | (go_at_call 122; with_reducible exact Calls.quiet_of (H1w _)) | (go_at_call 122; with_reducible exact Calls.quiet_of (H1 _)))
        go_wp2_with fail
        go_ret
        exact ⟨rfl, _, rfl⟩
      | true =>
        obtain rfl : d = db := by rw [HE.out]; rfl
        go_wp2_with fail
        go_quiet (first | (go_at_call 122; with_reducible exact Calls.quiet_of (H1w _)) | (go_at_call 122; with_reducible exact Calls.quiet_of (H1 _)) | (go_at_call 122; with_reducible exact Calls.quiet_of (H2w _)) | (go_at_call 122; with_reducible exact Calls.quiet_of (H2 _)))
        go_wp2_with fail
        go_ret
        exact ⟨rfl, _, rfl⟩
theorem spValidG (r c : Int) (a : Option Addr) (la ca : Nat) (xs : List Int) (b : Option Addr) (lb cb : Nat) (ys : List Int) (w : World) (h : SlV (Value.int .i64) w a la xs) (g : SlV (Value.int .i64) w b lb ys) (hla : la ≤ 1048576) (hlb : lb ≤ 1048576) : Calls Try.prog 38 #[.agg #[.int .i64 r, .int .i64 c, .slice a la ca, .slice b lb cb]] w (RetD (validG r c xs ys) w) := by
  have bw : Below w.heap.size w (w.alloc (.cells #[.int .i64 r, .int .i64 c, .slice a la ca, .slice b lb cb] 44)) := Below.alloc (Below.refl _ _) (Nat.le_refl _) _
  have hbox : Box (w.alloc (.cells #[.int .i64 r, .int .i64 c, .slice a la ca, .slice b lb cb] 44)) w.heap.size [.int .i64 r, .int .i64 c, .slice a la ca, .slice b lb cb] := Box.new _ _ _
  go_enter Try.func38, Try.ntmps38
  go_wp2_with fail
  refine (l02Is r c a la ca xs b lb cb ys _ _ hbox (h.below bw) (g.below bw) hla hlb).mono ?_
  rintro e w' ⟨rfl, n, rfl⟩
  go_wp2_with fail
  go_ret
  exact ⟨rfl, below_drewN bw n⟩
theorem bothValidG (r : Int) (c : Int) (_ : (Lit.int .i64 r).wf = true) (_ : (Lit.int .i64 c).wf = true) (la : Nat) (xs : List Int) (hla : la ≤ 1048576) (_ : ∀ n ∈ xs, (Lit.int .i64 n).wf = true) (lb : Nat) (ys : List Int) (hlb : lb ≤ 1048576) (_ : ∀ n ∈ ys, (Lit.int .i64 n).wf = true) :
    ∃ F : Bool, ∀ (a : Option Addr) (ca : Nat) (b : Option Addr) (cb : Nat) (w : World), SlV (Value.int .i64) w a la xs → SlV (Value.int .i64) w b lb ys →
      Calls Try.prog 38 #[.agg #[.int .i64 r, .int .i64 c, .slice a la ca, .slice b lb cb]] w (RetV (.bool F) w) ∧ Calls Try.prog 39 #[.agg #[.int .i64 r, .int .i64 c, .slice a la ca, .slice b lb cb]] w (RetV (.bool F) w) :=
  ⟨_, fun a ca b cb w h g => ⟨spValidG r c a la ca xs b lb cb ys w h g hla hlb, imValidG r c a la ca xs b lb cb ys w h g hla hlb⟩⟩
set_option maxHeartbeats 4000000 in
theorem fnExactValidGame (p00 : Int) (p01 : Int) (a00 : Option Addr) (l00 c00 : Nat) (x00 : List Int) (a01 : Option Addr) (l01 c01 : Nat) (x01 : List Int) (w : World) (hwp00 : (Lit.int .i64 p00).wf = true) (hwp01 : (Lit.int .i64 p01).wf = true) (hra00 : IsRow .i64 w a00 l00 c00 x00) (hra01 : IsRow .i64 w a01 l01 c01 x01) : Calls Try.prog 7 #[.agg #[.int .i64 p00, .int .i64 p01, .slice a00 l00 c00, .slice a01 l01 c01]] w (RetD true w) := by
  obtain ⟨hsa00, hva00, hma00⟩ := hra00
  have HSa00 := hid hsa00
  have HVa00 := hid hva00
  clear hsa00 hva00
  obtain ⟨hsa01, hva01, hma01⟩ := hra01
  have HSa01 := hid hsa01
  have HVa01 := hid hva01
  clear hsa01 hva01
  have HWp00 := hid hwp00
  clear hwp00
  have HWp01 := hid hwp01
  clear hwp01
  go_enter Try.func7, Try.ntmps7
  go_wp2_with fail
  refine (szGAny p00 p01 a00 l00 c00 a01 l01 c01 1048576 _ (Nat.le_refl _) hma00 hma01).mono ?_
  rintro e w1 ⟨r, rfl, b1, (⟨rfl, h1⟩ | ⟨rfl, h1⟩)⟩
  · have bw1 : Below w.heap.size w w1 := below_to (by repeat (first | exact Below.refl _ _ | with_reducible assumption | refine Below.alloc ?_ (by simp <;> omega) _)) b1
    go_wp2_with fail
    go_ret
    exact ⟨rfl, bw1⟩
  have bw1 : Below w.heap.size w w1 := below_to (by repeat (first | exact Below.refl _ _ | with_reducible assumption | refine Below.alloc ?_ (by simp <;> omega) _)) b1
  have bx0 : Box w1 (w.heap.size) [.int .i64 p00, .int .i64 p01, .slice a00 l00 c00, .slice a01 l01 c01] := (show Box _ (w.heap.size) _ from by simpa using Box.new w [.int .i64 p00, .int .i64 p01, .slice a00 l00 c00, .slice a01 l01 c01] 41).below b1
  have hla00 : l00 ≤ 1048576 := by omega
  have hla01 : l01 ≤ 1048576 := by omega
  obtain ⟨m1, hm1⟩ : ∃ m, 1048576 - (l00 + l01) = m := ⟨_, rfl⟩
  have hmm1 : m1 ≤ 1048576 := by omega
  rw [hm1]
  clear b1 h1 hm1
  obtain ⟨F0, hboth⟩ := bothValidG p00 p01 HWp00.out HWp01.out l00 x00 hla00 HVa00.out l01 x01 hla01 HVa01.out
  have HBOTH := hid hboth
  clear hboth
  have hFF0 : (F0 != F0) = false := by simp
  have f0 := (bx0.2 0 _ rfl).1
  have f1 := (bx0.2 1 _ rfl).1
  have f2 := (bx0.2 2 _ rfl).1
  have f3 := (bx0.2 3 _ rfl).1
  go_upto_region 5 with (fail)
  go_cut [4] (fun sv4 wx => sv4 = .bool F0 ∧ Box wx (w.heap.size) [.int .i64 p00, .int .i64 p01, .slice a00 l00 c00, .slice a01 l01 c01] ∧ Below w.heap.size w wx)
  case first =>
    go_wp2_with fail
    refine (toG p00 p01 a00 l00 c00 x00 a01 l01 c01 x01 _ (HSa00.out.below bw1) (HSa01.out.below bw1) hla00 hla01).mono ?_
    rintro e wa ⟨Aa00, Aa01, rfl, sa00, sa01, ba⟩
    have bx0 := bx0.below ba
    have bwa : Below w.heap.size w wa := below_to bw1 ba
    clear f0 f1 f2 f3
    have f0 := (bx0.2 0 _ rfl).1
    have f1 := (bx0.2 1 _ rfl).1
    have f2 := (bx0.2 2 _ rfl).1
    have f3 := (bx0.2 3 _ rfl).1
    go_wp2_with fail
    refine (HBOTH.out _ _ _ _ _ sa00 sa01).1.mono ?_
    rintro e wb ⟨rfl, bb⟩
    have bx0 := bx0.below bb
    have bwb : Below w.heap.size w wb := below_to bwa bb
    go_wp2_with fail
    go_meet
    exact ⟨rfl, bx0, bwb⟩
  case rest =>
    obtain ⟨rfl, bx0, bc⟩ := hcut
    have f0 := (bx0.2 0 _ rfl).1
    have f1 := (bx0.2 1 _ rfl).1
    have f2 := (bx0.2 2 _ rfl).1
    have f3 := (bx0.2 3 _ rfl).1
    go_wp2_with fail
    refine (toG p00 p01 a00 l00 c00 x00 a01 l01 c01 x01 _ (HSa00.out.below bc) (HSa01.out.below bc) hla00 hla01).mono ?_
    rintro e wy0 ⟨Ba00, Ba01, rfl, ta00, ta01, b⟩
    clear f0 f1 f2 f3
    have bx0 := bx0.below b
    have by0 : Below w.heap.size w wy0 := below_to bc b
    clear b
    have hal : Below wy0.heap.size wy0 (wy0.alloc (.cells #[.int .i64 p00, .int .i64 p01, .slice Ba00 l00 l00, .slice Ba01 l01 l01] 44)) := Below.alloc (Below.refl _ _) (Nat.le_refl _) _
    have bx0 := bx0.below hal
    have ex0 : Box (wy0.alloc (.cells #[.int .i64 p00, .int .i64 p01, .slice Ba00 l00 l00, .slice Ba01 l01 l01] 44)) wy0.heap.size [.int .i64 p00, .int .i64 p01, .slice Ba00 l00 l00, .slice Ba01 l01 l01] := Box.new _ _ _
    have ta00 := ta00.below hal
    have ta01 := ta01.below hal
    have byl0 : Below w.heap.size w (wy0.alloc (.cells #[.int .i64 p00, .int .i64 p01, .slice Ba00 l00 l00, .slice Ba01 l01 l01] 44)) := below_to by0 hal
    clear hal
    go_wp2_with fail
    refine (HBOTH.out _ _ _ _ _ ta00 ta01).2.mono ?_
    rintro e wi ⟨rfl, b⟩
    have bx0 := bx0.below b
    have ex0 := ex0.below b
    have ta00 := ta00.below b
    have ta01 := ta01.below b
    have bi : Below w.heap.size w wi := below_to byl0 b
    clear b
    have f0 := (bx0.2 0 _ rfl).1
    have f1 := (bx0.2 1 _ rfl).1
    have f2 := (bx0.2 2 _ rfl).1
    have f3 := (bx0.2 3 _ rfl).1
    have g0 := (ex0.2 0 _ rfl).1
    have g1 := (ex0.2 1 _ rfl).1
    have g2 := (ex0.2 2 _ rfl).1
    have g3 := (ex0.2 3 _ rfl).1
    go_upto_region 10 with (fail)
    go_cut [26] (fun sv wx => sv = .bool false ∧ Box wx (w.heap.size) [.int .i64 p00, .int .i64 p01, .slice a00 l00 c00, .slice a01 l01 c01] ∧ Below w.heap.size w wx)
    case first =>
      go_region_with (first
        | (go_at_call 35
           refine (toG p00 p01 a00 l00 c00 x00 a01 l01 c01 x01 _ (HSa00.out.below bi.drew) (HSa01.out.below bi.drew) hla00 hla01).mono ?_
           rintro e we ⟨Ea00, Ea01, rfl, ua00, ua01, b⟩
           have bx0 := (Box.d1 bx0).below b
           have ex0 := (Box.d1 ex0).below b
           have ta00 := (ta00.below (Below.refl _ _).drew).below b
           have ta01 := (ta01.below (Below.refl _ _).drew).below b
           have be : Below w.heap.size w we := below_to bi.drew b
           have f0 := (bx0.2 0 _ rfl).1
           have f1 := (bx0.2 1 _ rfl).1
           have f2 := (bx0.2 2 _ rfl).1
           have f3 := (bx0.2 3 _ rfl).1
           have g0 := (ex0.2 0 _ rfl).1
           have g1 := (ex0.2 1 _ rfl).1
           have g2 := (ex0.2 2 _ rfl).1
           have g3 := (ex0.2 3 _ rfl).1)
        | (go_at_call 37
           refine (eqGSelf p00 p01 _ _ l00 _ _ x00 _ _ l01 _ _ x01 _ ta00 ua00 hla00 ta01 ua01 hla01).mono ?_
           rintro e wf ⟨rfl, b⟩
           have bx0 := bx0.below b
           have bf : Below w.heap.size w wf := below_to be b))
      all_goals (go_wp2_with fail; go_meet; exact ⟨rfl, bx0, bf⟩)
    case rest =>
    clear f0 f1 f2 f3
    clear g0 g1 g2 g3
    clear bx0 ex0 ta00 ta01
    obtain ⟨rfl, bx0, bk0⟩ := hcut
    go_wp2_with fail
    go_ret
    exact ⟨rfl, bk0⟩
end TryWalk
end Go.Proofs.Ytlbmmecjiopbbaa
