/- Hexadecimal numerals: the reference's digits. No condition. -/
import Derived.Test.YtimablpgikebgaaDoorVh2
namespace Go.Proofs.YtimablpgikebgaaDoor
open Go.RowKit
set_option linter.unusedVariables false
set_option linter.unusedSimpArgs false
namespace Walk
theorem hexW_get : ∀ (e u k : Nat), k < e → (hexW e u)[k]? = some (hexG (u / 16 ^ (e - 1 - k) % 16))
  | 0, _, _, h => absurd h (Nat.not_lt_zero _)
  | e + 1, u, k, h => by
    show (hexW e (u / 16) ++ [hexG (u % 16)])[k]? = _
    by_cases hk : k < e
    · rw [List.getElem?_append_left (by rw [hexW_length]; exact hk), hexW_get e (u / 16) k hk, Nat.div_div_eq_div_mul]
      rw [show e + 1 - 1 - k = (e - 1 - k) + 1 by omega, Nat.pow_succ, Nat.mul_comm]
    · obtain rfl : k = e := by omega
      rw [List.getElem?_append_right (by rw [hexW_length]; exact Nat.le_refl _), hexW_length, Nat.sub_self]
      simp
/-- A list of bytes that the call made, to which it appends. -/
def OwnC (B : Nat) (w : World) (v : Value) (l : List UInt8) : Prop := ∃ g cap cur, v = .slice (some ⟨g, 0, none⟩) l.length cap ∧ B ≤ g ∧ w.heap[g]? = some (.cells cur 5 (0, 0)) ∧ l.length ≤ cap ∧ cap ≤ maxLen ∧ cur.size = cap ∧ cur.toList.take l.length = Lib.byteCells l
theorem OwnC.below {B : Nat} {w w' : World} {v : Value} {l : List UInt8} (h : OwnC B w v l) (b : Below w.heap.size w w') : OwnC B w' v l := by
  obtain ⟨g, cap, cur, hv, h1, hg, hr⟩ := h
  exact ⟨g, cap, cur, hv, h1, (b.block g (Array.getElem?_eq_some_iff.1 hg).1).trans hg, hr⟩
theorem OwnC.row {B : Nat} {w : World} {v : Value} {l : List UInt8} (h : OwnC B w v l) : w.ownsRow B 5 1 v l.length (Lib.byteCells l) := by
  obtain ⟨g, cap, cur, hv, h1, hg, h2, h3, h4, h5⟩ := h
  exact ⟨by rw [Lib.byteCells_length, Nat.mul_one], .inr ⟨g, cap, cur, hv, h1, hg, h2, h3, by omega, by rw [Nat.mul_one]; exact h5⟩⟩
theorem OwnC.start (w : World) : OwnC w.heap.size (w.alloc (.cells #[] 5)) (.slice (some ⟨w.heap.size, 0, none⟩) 0 0) [] :=
  ⟨w.heap.size, 0, #[], rfl, Nat.le_refl _, (MapKept.heap_alloc w _).1, Nat.le_refl _, Nat.zero_le _, rfl, rfl⟩
theorem OwnC.cells {B : Nat} {w : World} {l : List UInt8} {g cap : Nat} (h : OwnC B w (.slice (some ⟨g, 0, none⟩) l.length cap) l) : ∀ (j : Nat) (hj : j < l.length), w.cell? ⟨g, j, none⟩ = some (.int .u8 (l[j].toNat : Int)) := by
  obtain ⟨g', cap', cur, hv, h1, hg, h2, h3, h4, h5⟩ := h
  injection hv with e1 e2 e3
  injection e1 with e1
  injection e1 with e1
  subst e1
  intro j hj
  have e : cur[j]? = some (.int .u8 (l[j].toNat : Int)) := by
    have := congrArg (·[j]?) h5
    simp only [List.getElem?_take_of_lt hj, Array.getElem?_toList] at this
    rw [this]
    simp [Lib.byteCells, hj]
  simp only [World.cell?, hg]
  exact e
/-- 'append(out, c)'. -/
theorem wpList_snocB {wq : World} {ops : Array Oper} {rest : List Oper} {o : Oper} {a : Act} {Q : Exit → Act → World → Prop} (hgd : o.guard = none) (s x : Operand)
    (ho : o.op = .call { callee := .builtin .append, args := #[s, x], argTypes := #[79, 79] }) (B : Nat) (hB : B ≤ wq.heap.size) (c : UInt8) (z : Int) (hz : (c.toNat : Int) = z) (l : List UInt8) (v : Value) (hl : l.length ≤ 2000000)
    (hs : a.eval s = v) (hx : a.eval x = .slice (some ⟨wq.heap.size, 0, none⟩) 1 1) (hown : OwnC B wq v l)
    (h : ∀ v' w1, OwnC B w1 v' (l ++ [c]) → Below B wq w1 → wpList Tryd.prog ops Q rest (a.put o.dst v') w1) : wpList Tryd.prog ops Q (o :: rest) a (wq.alloc (.cells #[.int .u8 z] 5)) := by
  subst hz
  obtain ⟨i0, hi, hz0, hz1, hz2⟩ := info_parts infoB
  have hrow := (hown.below (Below.alloc (Below.refl wq.heap.size wq) (Nat.le_refl _) (.cells #[.int .u8 (c.toNat : Int)] 5))).row
  refine wpList_append_own_at _ hgd s x 79 ho B 5 i0 (.int .u8 0) 1 1 Tryd.underlying79 hi hz0 hz1 hz2 rfl (by decide) v l.length (Lib.byteCells l) hs hrow ⟨wq.heap.size, 0, none⟩ 1 1 [.int .u8 (c.toNat : Int)] hx rfl ?_ ?_ (by unfold maxLen; omega) (by omega) (by simp; omega) ?_
  · intro j u hj
    cases j with
    | zero =>
      simp at hj
      subst hj
      rw [Addr.add_lit]
      unfold World.cell?
      simp only [(MapKept.heap_alloc wq (.cells #[.int .u8 (c.toNat : Int)] 5)).1]
      rfl
    | succ j => simp at hj
  · intro u hu
    simp at hu
    subst hu
    rfl
  · intro v' w1 hown1 hgrow _ hat
    have hb : Below B wq w1 := ((Below.refl B wq).alloc hB _).grown hgrow (by simp; omega) (fun q hq => (hrow.lt q hq).1)
    refine h v' w1 ?_ hb
    rcases hown1.2 with ⟨-, h0⟩ | ⟨g', cap', cur, rfl, hbg, hg, h2, h3, h4, h5⟩
    · simp at h0
    · exact ⟨g', cap', cur, by simp, hbg, hg, by simpa using h2, h3, by omega, by simpa [Lib.byteCells] using h5⟩
theorem and15i (q : Nat) (h : q < 4294967296) : bits BinOp.and IntKind.i64 (q : Int) 15 = ((q % 16 : Nat) : Int) := by
  have hx : q &&& 15 < 2 ^ 64 := Nat.and_lt_two_pow _ (by omega)
  have e : q &&& 15 = q % 16 := Nat.and_two_pow_sub_one_eq_mod q 4
  show IntKind.i64.wrap ((BitVec.ofInt 64 (q : Int) &&& BitVec.ofInt 64 ((15 : Nat) : Int)).toNat : Int) = _
  rw [BitVec.toNat_and, ofInt_u64 q (by omega), ofInt_u64 15 (by omega), e]
  exact IntWalk.i64_in _ (by omega)
def DIGS : ByteArray := { data := #[48, 49, 50, 51, 52, 53, 54, 55, 56, 57, 97, 98, 99, 100, 101, 102] }
theorem digs_at : ∀ d : Fin 16, DIGS[d.val]? = some (hexG d.val) := by decide +kernel
theorem digs_size : DIGS.size = 16 := by decide +kernel
theorem digs_get (d : Nat) (h : d < 16) (hs : d < DIGS.size) : DIGS[d]'hs = hexG d := by
  have e := digs_at ⟨d, h⟩
  rw [ByteArray.getElem?_lt' _ _ hs] at e
  exact Option.some.inj e
theorem step8 (n k : Nat) (hk : k < 8) : (hexW 8 n).take (k + 1) = (hexW 8 n).take k ++ [hexG (n / 16 ^ (7 - k) % 16)] := by
  have hl : k < (hexW 8 n).length := by rw [hexW_length]; exact hk
  have := hexW_get 8 n k hk
  rw [List.getElem?_eq_getElem hl] at this
  rw [List.take_succ_eq_append_getElem hl, Option.some.inj this]
set_option maxRecDepth 100000 in
set_option maxHeartbeats 4000000 in
theorem l01Hex (x : Nat) (hx : x < 4294967296) (w : World) : Calls Tryd.prog 66 #[.float .f32 x] w fun e w' => e = .returned (.string ⟨(hexW 8 (bo x)).toArray⟩) ∧ Below w.heap.size w w' := by
  have HB1 := hid (l01Bits x hx)
  obtain ⟨n, hn⟩ : ∃ n, bo x = n := ⟨_, rfl⟩
  have HN : Hid (n < 4294967296) := hid (by rw [← hn]; exact bo_lt hx)
  rw [hn] at HB1 ⊢
  clear hn hx
  go_enter Tryd.func66, Tryd.ntmps66
  go_wp2_with fail
  refine (HB1.out w).mono ?_
  rintro e w1 ⟨rfl, rfl⟩
  go_wp2_with fail
  go_loopw [4, 5] (fun v i wr => ∃ k : Nat, k ≤ 8 ∧ i = .int .i64 (28 - 4 * (k : Int)) ∧ OwnC w1.heap.size wr v ((hexW 8 n).take k) ∧ Below w1.heap.size w1 wr) (fun _ i _ => (intOf i + 4).toNat)
  case atStart => exact ⟨0, Nat.zero_le _, rfl, OwnC.start w1, Below.alloc (Below.refl _ _) (Nat.le_refl _) _⟩
  case round =>
    obtain ⟨k, hk, rfl, hown, hbel⟩ := hrel
    have HOWN := hid hown
    have HBEL := hid hbel
    clear hown hbel
    obtain rfl | rfl | rfl | rfl | rfl | rfl | rfl | rfl | rfl : k = 0 ∨ k = 1 ∨ k = 2 ∨ k = 3 ∨ k = 4 ∨ k = 5 ∨ k = 6 ∨ k = 7 ∨ k = 8 := by omega
    · have HP := hid (step8 n 0 (by decide))
      have hand : bits BinOp.and IntKind.i64 ((n : Int) / 268435456) 15 = ((n / 268435456 % 16 : Nat) : Int) := by
        have := and15i (n / 268435456) (by have := HN.out; omega)
        rw [← this]
        congr 1
        all_goals first | rfl | (push_cast; rfl) | simp
      have hsz : n / 268435456 % 16 < DIGS.size := by rw [digs_size]; omega
      have hszL : n / 268435456 % 16 < ({ data := #[48, 49, 50, 51, 52, 53, 54, 55, 56, 57, 97, 98, 99, 100, 101, 102] } : ByteArray).size := hsz
      have HG := hid (digs_get (n / 268435456 % 16) (by omega) hsz)
      go_wp2_with (at_builtin; refine wpList_snocB rfl (.tmp 13) (.tmp 20) rfl w1.heap.size HBEL.out.size (hexG (n / 268435456 % 16)) _ (congrArg (fun c : UInt8 => (c.toNat : Int)) HG.out.symm) ((hexW 8 n).take 0) _ (by rw [List.length_take]; omega) rfl rfl HOWN.out ?_; intro v' w3 ho1 hb1; have HO1 := hid ho1; have HB1' := hid (HBEL.out.trans hb1); clear ho1 hb1)
      go_roundw
      case rel => exact ⟨1, by omega, by rfl, by rw [HP.out]; exact HO1.out, HB1'.out⟩
      case measure => simp [intOf]
    · have HP := hid (step8 n 1 (by decide))
      have hand : bits BinOp.and IntKind.i64 ((n : Int) / 16777216) 15 = ((n / 16777216 % 16 : Nat) : Int) := by
        have := and15i (n / 16777216) (by have := HN.out; omega)
        rw [← this]
        congr 1
        all_goals first | rfl | (push_cast; rfl) | simp
      have hsz : n / 16777216 % 16 < DIGS.size := by rw [digs_size]; omega
      have hszL : n / 16777216 % 16 < ({ data := #[48, 49, 50, 51, 52, 53, 54, 55, 56, 57, 97, 98, 99, 100, 101, 102] } : ByteArray).size := hsz
      have HG := hid (digs_get (n / 16777216 % 16) (by omega) hsz)
      go_wp2_with (at_builtin; refine wpList_snocB rfl (.tmp 13) (.tmp 20) rfl w1.heap.size HBEL.out.size (hexG (n / 16777216 % 16)) _ (congrArg (fun c : UInt8 => (c.toNat : Int)) HG.out.symm) ((hexW 8 n).take 1) _ (by rw [List.length_take]; omega) rfl rfl HOWN.out ?_; intro v' w3 ho1 hb1; have HO1 := hid ho1; have HB1' := hid (HBEL.out.trans hb1); clear ho1 hb1)
      go_roundw
      case rel => exact ⟨2, by omega, by rfl, by rw [HP.out]; exact HO1.out, HB1'.out⟩
      case measure => simp [intOf]
    · have HP := hid (step8 n 2 (by decide))
      have hand : bits BinOp.and IntKind.i64 ((n : Int) / 1048576) 15 = ((n / 1048576 % 16 : Nat) : Int) := by
        have := and15i (n / 1048576) (by have := HN.out; omega)
        rw [← this]
        congr 1
        all_goals first | rfl | (push_cast; rfl) | simp
      have hsz : n / 1048576 % 16 < DIGS.size := by rw [digs_size]; omega
      have hszL : n / 1048576 % 16 < ({ data := #[48, 49, 50, 51, 52, 53, 54, 55, 56, 57, 97, 98, 99, 100, 101, 102] } : ByteArray).size := hsz
      have HG := hid (digs_get (n / 1048576 % 16) (by omega) hsz)
      go_wp2_with (at_builtin; refine wpList_snocB rfl (.tmp 13) (.tmp 20) rfl w1.heap.size HBEL.out.size (hexG (n / 1048576 % 16)) _ (congrArg (fun c : UInt8 => (c.toNat : Int)) HG.out.symm) ((hexW 8 n).take 2) _ (by rw [List.length_take]; omega) rfl rfl HOWN.out ?_; intro v' w3 ho1 hb1; have HO1 := hid ho1; have HB1' := hid (HBEL.out.trans hb1); clear ho1 hb1)
      go_roundw
      case rel => exact ⟨3, by omega, by rfl, by rw [HP.out]; exact HO1.out, HB1'.out⟩
      case measure => simp [intOf]
    · have HP := hid (step8 n 3 (by decide))
      have hand : bits BinOp.and IntKind.i64 ((n : Int) / 65536) 15 = ((n / 65536 % 16 : Nat) : Int) := by
        have := and15i (n / 65536) (by have := HN.out; omega)
        rw [← this]
        congr 1
        all_goals first | rfl | (push_cast; rfl) | simp
      have hsz : n / 65536 % 16 < DIGS.size := by rw [digs_size]; omega
      have hszL : n / 65536 % 16 < ({ data := #[48, 49, 50, 51, 52, 53, 54, 55, 56, 57, 97, 98, 99, 100, 101, 102] } : ByteArray).size := hsz
      have HG := hid (digs_get (n / 65536 % 16) (by omega) hsz)
      go_wp2_with (at_builtin; refine wpList_snocB rfl (.tmp 13) (.tmp 20) rfl w1.heap.size HBEL.out.size (hexG (n / 65536 % 16)) _ (congrArg (fun c : UInt8 => (c.toNat : Int)) HG.out.symm) ((hexW 8 n).take 3) _ (by rw [List.length_take]; omega) rfl rfl HOWN.out ?_; intro v' w3 ho1 hb1; have HO1 := hid ho1; have HB1' := hid (HBEL.out.trans hb1); clear ho1 hb1)
      go_roundw
      case rel => exact ⟨4, by omega, by rfl, by rw [HP.out]; exact HO1.out, HB1'.out⟩
      case measure => simp [intOf]
    · have HP := hid (step8 n 4 (by decide))
      have hand : bits BinOp.and IntKind.i64 ((n : Int) / 4096) 15 = ((n / 4096 % 16 : Nat) : Int) := by
        have := and15i (n / 4096) (by have := HN.out; omega)
        rw [← this]
        congr 1
        all_goals first | rfl | (push_cast; rfl) | simp
      have hsz : n / 4096 % 16 < DIGS.size := by rw [digs_size]; omega
      have hszL : n / 4096 % 16 < ({ data := #[48, 49, 50, 51, 52, 53, 54, 55, 56, 57, 97, 98, 99, 100, 101, 102] } : ByteArray).size := hsz
      have HG := hid (digs_get (n / 4096 % 16) (by omega) hsz)
      go_wp2_with (at_builtin; refine wpList_snocB rfl (.tmp 13) (.tmp 20) rfl w1.heap.size HBEL.out.size (hexG (n / 4096 % 16)) _ (congrArg (fun c : UInt8 => (c.toNat : Int)) HG.out.symm) ((hexW 8 n).take 4) _ (by rw [List.length_take]; omega) rfl rfl HOWN.out ?_; intro v' w3 ho1 hb1; have HO1 := hid ho1; have HB1' := hid (HBEL.out.trans hb1); clear ho1 hb1)
      go_roundw
      case rel => exact ⟨5, by omega, by rfl, by rw [HP.out]; exact HO1.out, HB1'.out⟩
      case measure => simp [intOf]
    · have HP := hid (step8 n 5 (by decide))
      have hand : bits BinOp.and IntKind.i64 ((n : Int) / 256) 15 = ((n / 256 % 16 : Nat) : Int) := by
        have := and15i (n / 256) (by have := HN.out; omega)
        rw [← this]
        congr 1
        all_goals first | rfl | (push_cast; rfl) | simp
      have hsz : n / 256 % 16 < DIGS.size := by rw [digs_size]; omega
      have hszL : n / 256 % 16 < ({ data := #[48, 49, 50, 51, 52, 53, 54, 55, 56, 57, 97, 98, 99, 100, 101, 102] } : ByteArray).size := hsz
      have HG := hid (digs_get (n / 256 % 16) (by omega) hsz)
      go_wp2_with (at_builtin; refine wpList_snocB rfl (.tmp 13) (.tmp 20) rfl w1.heap.size HBEL.out.size (hexG (n / 256 % 16)) _ (congrArg (fun c : UInt8 => (c.toNat : Int)) HG.out.symm) ((hexW 8 n).take 5) _ (by rw [List.length_take]; omega) rfl rfl HOWN.out ?_; intro v' w3 ho1 hb1; have HO1 := hid ho1; have HB1' := hid (HBEL.out.trans hb1); clear ho1 hb1)
      go_roundw
      case rel => exact ⟨6, by omega, by rfl, by rw [HP.out]; exact HO1.out, HB1'.out⟩
      case measure => simp [intOf]
    · have HP := hid (step8 n 6 (by decide))
      have hand : bits BinOp.and IntKind.i64 ((n : Int) / 16) 15 = ((n / 16 % 16 : Nat) : Int) := by
        have := and15i (n / 16) (by have := HN.out; omega)
        rw [← this]
        congr 1
        all_goals first | rfl | (push_cast; rfl) | simp
      have hsz : n / 16 % 16 < DIGS.size := by rw [digs_size]; omega
      have hszL : n / 16 % 16 < ({ data := #[48, 49, 50, 51, 52, 53, 54, 55, 56, 57, 97, 98, 99, 100, 101, 102] } : ByteArray).size := hsz
      have HG := hid (digs_get (n / 16 % 16) (by omega) hsz)
      go_wp2_with (at_builtin; refine wpList_snocB rfl (.tmp 13) (.tmp 20) rfl w1.heap.size HBEL.out.size (hexG (n / 16 % 16)) _ (congrArg (fun c : UInt8 => (c.toNat : Int)) HG.out.symm) ((hexW 8 n).take 6) _ (by rw [List.length_take]; omega) rfl rfl HOWN.out ?_; intro v' w3 ho1 hb1; have HO1 := hid ho1; have HB1' := hid (HBEL.out.trans hb1); clear ho1 hb1)
      go_roundw
      case rel => exact ⟨7, by omega, by rfl, by rw [HP.out]; exact HO1.out, HB1'.out⟩
      case measure => simp [intOf]
    · have HP : Hid ((hexW 8 n).take 8 = (hexW 8 n).take 7 ++ [hexG (n % 16)]) := hid (by have := step8 n 7 (by decide); rw [show n / 16 ^ (7 - 7) = n from Nat.div_one n] at this; exact this)
      have hand : bits BinOp.and IntKind.i64 (n : Int) 15 = ((n % 16 : Nat) : Int) := and15i n HN.out
      have hsz : n % 16 < DIGS.size := by rw [digs_size]; omega
      have hszL : n % 16 < ({ data := #[48, 49, 50, 51, 52, 53, 54, 55, 56, 57, 97, 98, 99, 100, 101, 102] } : ByteArray).size := hsz
      have HG := hid (digs_get (n % 16) (by omega) hsz)
      go_wp2_with (at_builtin; refine wpList_snocB rfl (.tmp 13) (.tmp 20) rfl w1.heap.size HBEL.out.size (hexG (n % 16)) _ (congrArg (fun c : UInt8 => (c.toNat : Int)) HG.out.symm) ((hexW 8 n).take 7) _ (by rw [List.length_take]; omega) rfl rfl HOWN.out ?_; intro v' w3 ho1 hb1; have HO1 := hid ho1; have HB1' := hid (HBEL.out.trans hb1); clear ho1 hb1)
      go_roundw
      case rel => exact ⟨8, by omega, by rfl, by rw [HP.out]; exact HO1.out, HB1'.out⟩
      case measure => simp [intOf]
    · have HL : Hid ((hexW 8 n).take 8 = hexW 8 n) := hid (List.take_of_length_le (by rw [hexW_length]; exact Nat.le_refl _))
      have hown := HOWN.out
      rw [HL.out] at hown
      obtain ⟨g, cap, cur, hv, -⟩ := id hown
      rw [hexW_length] at hv
      subst hv
      have hown2 : OwnC w1.heap.size wr (.slice (some ⟨g, 0, none⟩) (hexW 8 n).length cap) (hexW 8 n) := by rw [hexW_length]; exact hown
      have hcv := run_convert_bytes_back (P := Tryd.prog) wr 79 9 5 ⟨g, 0, none⟩ cap (hexW 8 n) Tryd.underlying79 Tryd.underlying5 Tryd.underlying9 (fun j hj => by rw [Addr.add_lit, Nat.zero_add]; exact hown2.cells j hj)
      rw [hexW_length] at hcv
      obtain ⟨t, ht⟩ : ∃ t : ByteArray, (⟨(hexW 8 n).toArray⟩ : ByteArray) = t := ⟨_, rfl⟩
      rw [ht] at hcv
      have HT := hid ht
      clear hown hown2 ht HL HOWN
      go_wp2_with fail
      go_ret
      exact ⟨by rw [HT.out]; rfl, HBEL.out⟩
end Walk
end Go.Proofs.YtimablpgikebgaaDoor
