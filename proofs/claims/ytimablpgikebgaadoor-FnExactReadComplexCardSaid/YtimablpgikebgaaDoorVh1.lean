/- strconv.FormatInt at base 16, for 0 <= n < 2^32. No condition but one cell of the table of trailing zeros. -/
import Derived.Test.YtimablpgikebgaaDoorVd1
import Derived.Test.YtimablpgikebgaaDoorRowf
import Derived.Laws.BytesArg
namespace Go.Proofs.YtimablpgikebgaaDoor
open Go.RowKit
set_option linter.unusedVariables false
set_option linter.unusedSimpArgs false
namespace Walk
def hexG (d : Nat) : UInt8 := if d < 10 then UInt8.ofNat (48 + d) else UInt8.ofNat (87 + d)
theorem isPow (w : World) : Calls Tryd.prog 98 #[.int .i64 16] w fun e w' => e = .returned (.bool true) ∧ w' = w := by
  go_enter Tryd.func98, Tryd.ntmps98
  go_wp2
  go_ret
  exact ⟨rfl, rfl⟩
theorem tz64 (w : World) (h : w.cell? ⟨6, 15, none⟩ = some (.int .u8 4)) : Calls Tryd.prog 113 #[.int .u64 16] w fun e w' => e = .returned (.int .i64 4) ∧ w' = w := by
  have e1 : bits BinOp.and IntKind.u64 16 (IntKind.u64.wrap (-16)) = 16 := by decide +kernel
  have e2 : IntKind.u64.wrap (16 * 285870213051353865) = 4573923408821661840 := by decide +kernel
  go_enter Tryd.func113, Tryd.ntmps113
  go_wp2
  go_ret
  exact ⟨rfl, rfl⟩
theorem tz (w : World) (h : w.cell? ⟨6, 15, none⟩ = some (.int .u8 4)) : Calls Tryd.prog 99 #[.int .u64 16] w fun e w' => e = .returned (.int .i64 4) ∧ w' = w := by
  have H := hid (tz64 w h)
  clear h
  go_enter Tryd.func99, Tryd.ntmps99
  go_wp2_with fail
  refine H.out.mono ?_
  rintro e w1 ⟨rfl, rfl⟩
  go_wp2_with fail
  go_ret
  exact ⟨rfl, rfl⟩
def DIG : ByteArray := { data := #[48, 49, 50, 51, 52, 53, 54, 55, 56, 57, 97, 98, 99, 100, 101, 102, 103, 104, 105, 106, 107, 108, 109, 110, 111, 112, 113, 114, 115, 116, 117, 118, 119, 120, 121, 122] }
theorem dig_at : ∀ d : Fin 16, DIG[d.val]? = some (hexG d.val) := by decide +kernel
theorem dig_size : DIG.size = 36 := by decide +kernel
theorem dig_get (d : Nat) (h : d < 16) (hs : d < DIG.size) : DIG[d]'hs = hexG d := by
  have e := dig_at ⟨d, h⟩
  rw [ByteArray.getElem?_lt' _ _ hs] at e
  exact Option.some.inj e
/-- u written with k digits. -/
def hexW : Nat → Nat → List UInt8
  | 0, _ => []
  | k + 1, u => hexW k (u / 16) ++ [hexG (u % 16)]
theorem hexW_zero : ∀ k, hexW k 0 = List.replicate k 48
  | 0 => rfl
  | k + 1 => by
    show hexW k 0 ++ [hexG 0] = _
    rw [hexW_zero k, List.replicate_succ']
    rfl
theorem hexW_length : ∀ k u, (hexW k u).length = k
  | 0, _ => rfl
  | k + 1, u => by simp [hexW, hexW_length k]
/-- The digits that stand so far (l), behind them what is left (q), in e places. -/
structure Hx (w : World) (n q p e : Nat) (l : List UInt8) (wr : World) : Prop where
  below : Below w.heap.size w wr
  size : w.heap.size < wr.heap.size
  cell : ∀ j, j < 65 → ∃ v, wr.cell? ⟨w.heap.size, j, none⟩ = some v
  dig : ∀ j (h : j < l.length), wr.cell? ⟨w.heap.size, p + j, none⟩ = some (.int .u8 (l[j].toNat : Int))
  free : ∀ j, wr.frozen? ⟨w.heap.size, j, none⟩ = false
  place : p + l.length = 65
  room : e + l.length = 8
  left : q < 16 ^ e
  text : hexW 8 n = hexW e q ++ l
  pos : 1 ≤ e
theorem al114 : Tryd.prog.arrayLen 114 = 65 := by kernel_rfl
theorem el114 : Tryd.prog.elem 114 = 5 := by kernel_rfl
theorem size5 (w : World) : (sizeOf 5).run Tryd.prog w = .ok 1 w := by kernel_rfl
theorem slice65 (g p : Nat) (hp : p < 65) (w : World) : (Instr.sliceAt 114 (.pointer (some ⟨g, 0, none⟩)) (some (.int .i64 (p : Int))) none none).run Tryd.prog w = .ok (.slice (some ⟨g, p, none⟩) (65 - p) (65 - p)) w := by
  rw [run_sliceAt_array_l w 114 ⟨g, 0, none⟩ (by rw [al114, el114]; exact Tryd.underlying114) .i64 (p : Int) (by omega) (by rw [al114]; omega), el114, size5]
  simp only [Result.andThen_ok, slicedAt, al114, Int.toNat_natCast, Nat.mul_one]
  rw [if_neg (by omega), Addr.add_lit, Nat.zero_add]
theorem zc_size : Tryd.zeroCells114.size = 65 := by kernel_rfl
theorem Hx.start (w : World) (n : Nat) (hn : n < 4294967296) : Hx w n n 65 8 [] (w.alloc (.cells Tryd.zeroCells114 114)) := by
  have hb : (w.alloc (.cells Tryd.zeroCells114 114)).heap[w.heap.size]? = some (.cells Tryd.zeroCells114 114 (0, 0)) := (MapKept.heap_alloc w _).1
  refine ⟨(Below.refl _ _).alloc (Nat.le_refl _) _, by simp, fun j hj => ?_, fun j h => absurd h (Nat.not_lt_zero _), fun j => ?_, rfl, rfl, hn, by simp, by decide⟩
  · have hj2 : j < Tryd.zeroCells114.size := by rw [zc_size]; exact hj
    exact ⟨Tryd.zeroCells114[j], by simp only [World.cell?, hb]; simp [hj2]⟩
  · simp only [World.frozen?, hb]; simp
theorem Hx.step {w wr : World} {n q p e : Nat} {l : List UInt8} (h : Hx w n q p e l wr) (hq : 16 ≤ q) : Hx w n (q / 16) (p - 1) (e - 1) (hexG (q % 16) :: l) (wr.setCell ⟨w.heap.size, p - 1, none⟩ (.int .u8 ((hexG (q % 16)).toNat : Int))) := by
  have he : 2 ≤ e := by
    rcases Nat.lt_or_ge e 2 with g | g
    · have hl := h.left
      have : 16 ^ e ≤ 16 ^ 1 := Nat.pow_le_pow_right (by omega) (by omega)
      omega
    · exact g
  have hp := h.place
  have hr := h.room
  obtain ⟨v0, hc0⟩ := h.cell (p - 1) (by omega)
  refine ⟨h.below.setCell (by simp) _, by simpa [World.setCell] using h.size, fun j hj => ?_, fun j hj => ?_, fun j => ?_, by simp; omega, by simp; omega, ?_, ?_, by omega⟩
  · by_cases ej : j = p - 1
    · subst ej
      exact ⟨_, World.cell?_setCell_same _ _ _ hc0⟩
    · obtain ⟨v, hc⟩ := h.cell j hj
      have e2 : (⟨w.heap.size, p - 1, none⟩ : Addr) ≠ ⟨w.heap.size, j, none⟩ := by
        intro h; injection h with h1 h2; exact ej h2.symm
      exact ⟨v, by rw [World.cell?_setCell_other _ _ _ _ e2, hc]⟩
  · cases j with
    | zero => exact World.cell?_setCell_same _ _ _ hc0
    | succ j =>
      have hj2 : j < l.length := by simpa using hj
      have e2 : (⟨w.heap.size, p - 1, none⟩ : Addr) ≠ ⟨w.heap.size, p - 1 + (j + 1), none⟩ := by
        intro h; injection h with h1 h2; omega
      rw [World.cell?_setCell_other _ _ _ _ e2]
      have := h.dig j hj2
      rw [show p + j = p - 1 + (j + 1) by omega] at this
      exact this
  · simp [h.free j]
  · have hl := h.left
    rw [show e = (e - 1) + 1 by omega, Nat.pow_succ] at hl
    exact Nat.div_lt_of_lt_mul (by omega)
  · rw [h.text]
    obtain ⟨e', rfl⟩ : ∃ e', e = e' + 1 := ⟨e - 1, by omega⟩
    show hexW e' (q / 16) ++ [hexG (q % 16)] ++ l = hexW (e' + 1 - 1) (q / 16) ++ (hexG (q % 16) :: l)
    simp
/-- The last digit. -/
theorem Hx.last {w wr : World} {n q p e : Nat} {l : List UInt8} (h : Hx w n q p e l wr) (hq : q < 16) : hexW 8 n = List.replicate (e - 1) 48 ++ (hexG q :: l) := by
  rw [h.text]
  obtain ⟨e', rfl⟩ : ∃ e', e = e' + 1 := ⟨e - 1, by have := h.pos; omega⟩
  show hexW e' (q / 16) ++ [hexG (q % 16)] ++ l = _
  rw [Nat.div_eq_of_lt hq, Nat.mod_eq_of_lt hq, hexW_zero]
  simp
theorem and15 (q : Nat) (h : q < 4294967296) : bits BinOp.and IntKind.u64 (q : Int) 15 = ((q % 16 : Nat) : Int) := by
  have := u64_and_nat q 15 (by omega) (by omega)
  rw [show ((15 : Nat) : Int) = 15 from rfl] at this
  rw [this]
  congr 1
  exact Nat.and_two_pow_sub_one_eq_mod q 4
/-- The text that comes back: the digits of n without the zeros ahead. -/
def HexT (n : Nat) (t : ByteArray) : Prop := ∃ z L, z + L.length = 8 ∧ 1 ≤ L.length ∧ hexW 8 n = List.replicate z 48 ++ L ∧ t = ⟨L.toArray⟩
set_option maxRecDepth 100000 in
set_option maxHeartbeats 2000000 in
theorem formatBits (n : Nat) (hn : n < 4294967296) (w : World) (h : w.cell? ⟨6, 15, none⟩ = some (.int .u8 4)) : Calls Tryd.prog 79 #[.slice none 0 0, .int .u64 n, .int .i64 16, .bool false, .bool false] w fun e w' => ∃ t, e = .returned (.tuple #[.slice none 0 0, .string t]) ∧ HexT n t ∧ Below w.heap.size w w' := by
  have H := hid h
  have HB := hid (block_lt h)
  have HS := hid (Hx.start w n hn)
  clear h
  go_enter Tryd.func79, Tryd.ntmps79
  go_wp2_with fail
  refine (isPow _).mono ?_
  rintro e w1 ⟨rfl, rfl⟩
  go_wp2_with fail
  refine (tz _ (((Below.alloc (Below.refl w.heap.size w) (Nat.le_refl _) _).cell (p := ⟨6, 15, none⟩) HB.out).trans H.out)).mono ?_
  rintro e w1 ⟨rfl, rfl⟩
  go_wp2_with fail
  go_loopw [1, 13] (fun u i wr => ∃ (q p e : Nat) (l : List UInt8), u = .int .u64 q ∧ i = .int .i64 p ∧ q < 4294967296 ∧ Hx w n q p e l wr) (fun u _ _ => (intOf u).toNat)
  case atStart => exact ⟨n, 65, 8, [], rfl, rfl, hn, HS.out⟩
  case round =>
    obtain ⟨q, p, e, l, rfl, rfl, hq32, hx⟩ := hrel
    have HX := hid hx
    obtain ⟨hp1, hp2⟩ : 58 ≤ p ∧ p ≤ 65 := by
      have := hx.place; have := hx.room; have := hx.pos; omega
    obtain ⟨v0, hc0⟩ := hx.cell (p - 1) (by omega)
    have hf0 := hx.free (p - 1)
    have hpp : ((p : Int) - 1) = ((p - 1 : Nat) : Int) := by omega
    by_cases hq : 16 ≤ q
    · have hand := and15 q hq32
      have hsz : q % 16 < DIG.size := by rw [dig_size]; omega
      have HSTEP : Hid (Hx w n (q / 16) (p - 1) (e - 1) (hexG (q % 16) :: l) (wr.setCell ⟨w.heap.size, p - 1, none⟩ (.int .u8 ((DIG[q % 16]'hsz).toNat : Int)))) := hid (by rw [dig_get _ (Nat.mod_lt _ (by omega))]; exact hx.step hq)
      have HQ := hid hq32
      clear hx hq32
      go_wp2
      go_roundw
      case rel => exact ⟨q / 16, p - 1, e - 1, _, by go_num, rfl, by have := HQ.out; omega, HSTEP.out⟩
      case measure => simp [intOf]; omega
    · have hsz : q < DIG.size := by rw [dig_size]; omega
      have HQ := hid hq32
      have hal : ((p - 1 : Nat) : Int) ≤ Tryd.prog.arrayLen 114 := by
        rw [al114]; omega
      have hle := hx.last (by omega)
      have hpl := hx.place
      have hrm := hx.room
      have hps := hx.pos
      obtain ⟨m, hm⟩ : ∃ m, (hexG q :: l).length = m := ⟨_, rfl⟩
      have hml : l.length + 1 = m := by rw [← hm]; rfl
      have hsl := slice65 w.heap.size (p - 1) (by omega)
      rw [show 65 - (p - 1) = m by omega] at hsl
      obtain ⟨w3, hw3⟩ : ∃ w3, wr.setCell ⟨w.heap.size, p - 1, none⟩ (.int .u8 ((DIG[q]'hsz).toNat : Int)) = w3 := ⟨_, rfl⟩
      have hw3' : wr.setCell ⟨w.heap.size, p - 1, none⟩ (.int .u8 ((hexG q).toNat : Int)) = w3 := by rw [← hw3, dig_get q (by omega)]
      have hcv := run_convert_bytes_back (P := Tryd.prog) w3 79 9 5 ⟨w.heap.size, p - 1, none⟩ m (hexG q :: l) Tryd.underlying79 Tryd.underlying5 Tryd.underlying9 (by
        intro j hj
        rw [Addr.add_lit, ← hw3']
        cases j with
        | zero => exact World.cell?_setCell_same _ _ _ hc0
        | succ j =>
          have hj2 : j < l.length := by simpa using hj
          have e2 : (⟨w.heap.size, p - 1, none⟩ : Addr) ≠ ⟨w.heap.size, p - 1 + (j + 1), none⟩ := by
            intro h; injection h with h1 h2; omega
          rw [World.cell?_setCell_other _ _ _ _ e2]
          have := hx.dig j hj2
          rw [show p + j = p - 1 + (j + 1) by omega] at this
          exact this)
      rw [hm] at hcv
      obtain ⟨t, ht⟩ : ∃ t : ByteArray, (⟨(hexG q :: l).toArray⟩ : ByteArray) = t := ⟨_, rfl⟩
      rw [ht] at hcv
      have HT : Hid (HexT n t) := hid ⟨e - 1, hexG q :: l, by rw [hm]; omega, by simp, hle, ht.symm⟩
      have HB3 : Hid (Below w.heap.size w w3) := hid (by rw [← hw3']; exact hx.below.setCell (by simp) _)
      have hszL : q < ({ data := #[48, 49, 50, 51, 52, 53, 54, 55, 56, 57, 97, 98, 99, 100, 101, 102, 103, 104, 105, 106, 107, 108, 109, 110, 111, 112, 113, 114, 115, 116, 117, 118, 119, 120, 121, 122] } : ByteArray).size := hsz
      have hw3b : wr.setCell { block := w.heap.size, off := p - 1 } (.int .u8 (((({ data := #[48, 49, 50, 51, 52, 53, 54, 55, 56, 57, 97, 98, 99, 100, 101, 102, 103, 104, 105, 106, 107, 108, 109, 110, 111, 112, 113, 114, 115, 116, 117, 118, 119, 120, 121, 122] } : ByteArray))[q]'hszL).toNat : Int)) = w3 := hw3
      rw [← hw3b] at hcv HB3
      clear hw3b
      clear hsz hx hq32 hw3 hw3' ht hm hml hpl hrm hps hle hal
      go_wp2
      go_ret2
      exact ⟨t, rfl, HT.out, HB3.out⟩
end Walk
end Go.Proofs.YtimablpgikebgaaDoor
