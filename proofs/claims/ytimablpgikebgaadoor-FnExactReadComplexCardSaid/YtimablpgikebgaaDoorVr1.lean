/- Reading lists: cutting a text at its commas, the reference's way. No condition. -/
import Derived.Test.YtimablpgikebgaaDoorVe2
import Derived.Test.YtimablpgikebgaaDoorPr
namespace Go.Proofs.YtimablpgikebgaaDoor
open Go.RowKit Sl
set_option linter.unusedVariables false
set_option linter.unusedSimpArgs false
namespace Walk
def strsB (L : List (List UInt8)) : List ByteArray := L.map fun l => (⟨l.toArray⟩ : ByteArray)
theorem strsB_length (L : List (List UInt8)) : (strsB L).length = L.length := by simp [strsB]
/-- How far the cutting has come: the pieces so far, where the next begins (f), where it stands (k). -/
def CutAt (l : List UInt8) (k f : Nat) (done : List (List UInt8)) : Prop :=
  (k ≤ l.length ∧ f ≤ k ∧ (∀ c ∈ (l.take k).drop f, c ≠ 44) ∧ done ++ Dec.cutL (l.drop f) = Dec.cutL l) ∨ (k = l.length + 1 ∧ done = Dec.cutL l)
theorem CutAt.start (l : List UInt8) : CutAt l 0 0 [] := .inl ⟨Nat.zero_le _, Nat.le_refl _, by simp, by simp⟩
theorem CutAt.len {l : List UInt8} {k f : Nat} {done : List (List UInt8)} (h : CutAt l k f done) : done.length ≤ l.length + 1 := by
  have hc := Dec.cut_len l
  rcases h with ⟨_, _, _, h⟩ | ⟨_, h⟩
  · have := congrArg List.length h
    rw [List.length_append] at this
    omega
  · rw [h]; exact hc
theorem CutAt.other {l : List UInt8} {k f : Nat} {done : List (List UInt8)} (h : CutAt l k f done) (hk : k < l.length) (hc : l[k] ≠ 44) : CutAt l (k + 1) f done := by
  rcases h with ⟨h1, h2, h3, h4⟩ | ⟨h1, _⟩
  · refine .inl ⟨by omega, by omega, fun c hm => ?_, h4⟩
    rw [List.take_succ_eq_append_getElem hk, List.drop_append_of_le_length (by rw [List.length_take]; omega)] at hm
    rcases List.mem_append.1 hm with hm | hm
    · exact h3 c hm
    · rw [List.mem_singleton.1 hm]; exact hc
  · omega
theorem CutAt.comma {l : List UInt8} {k f : Nat} {done : List (List UInt8)} (h : CutAt l k f done) (hk : k < l.length) (hc : l[k] = 44) : CutAt l (k + 1) (k + 1) (done ++ [(l.take k).drop f]) := by
  rcases h with ⟨h1, h2, h3, h4⟩ | ⟨h1, _⟩
  · refine .inl ⟨by omega, Nat.le_refl _, ?_, ?_⟩
    · intro c hm
      rw [List.drop_of_length_le (by rw [List.length_take]; omega)] at hm
      cases hm
    · rw [← h4, List.append_assoc]
      congr 1
      have e : l.drop f = (l.take k).drop f ++ 44 :: l.drop (k + 1) := by
        conv => lhs; rw [← List.take_append_drop k l]
        rw [List.drop_append_of_le_length (by rw [List.length_take]; omega), List.drop_eq_getElem_cons hk, hc]
      rw [e, Dec.cut_comma _ _ h3]
      rfl
  · omega
theorem CutAt.last {l : List UInt8} {k f : Nat} {done : List (List UInt8)} (h : CutAt l k f done) (hk : k = l.length) : CutAt l (k + 1) (k + 1) (done ++ [(l.take k).drop f]) := by
  rcases h with ⟨h1, h2, h3, h4⟩ | ⟨h1, _⟩
  · refine .inr ⟨by omega, ?_⟩
    subst hk
    rw [List.take_of_length_le (Nat.le_refl _)] at h3 ⊢
    rw [← h4, Dec.cut_end _ h3]
  · omega
theorem CutAt.done {l : List UInt8} {k f : Nat} {done : List (List UInt8)} (h : CutAt l k f done) (hk : l.length < k) : done = Dec.cutL l := by
  rcases h with ⟨h1, _⟩ | ⟨_, h⟩
  · omega
  · exact h
theorem CutAt.le {l : List UInt8} {k f : Nat} {done : List (List UInt8)} (h : CutAt l k f done) (hk : k ≤ l.length) : f ≤ k := by
  rcases h with ⟨_, h, _⟩ | ⟨h, _⟩
  · exact h
  · omega
theorem piece_eq (s : ByteArray) (f k : Nat) : s.extract f k = ⟨((s.data.toList.take k).drop f).toArray⟩ := by
  have := Dec.extract_all s f k
  generalize s.extract f k = x at *
  obtain ⟨⟨x⟩⟩ := x
  rw [← this]
theorem strsB_snoc (L : List (List UInt8)) (p : List UInt8) : strsB (L ++ [p]) = strsB L ++ [(⟨p.toArray⟩ : ByteArray)] := by simp [strsB]
set_option maxRecDepth 100000 in
set_option maxHeartbeats 1000000 in
theorem l01Cut (s : ByteArray) (hs : s.size ≤ 1048576) (w : World) : Calls Tryd.prog 57 #[.string s, .int .u8 44] w fun e w' => ∃ v, e = .returned v ∧ OwnS w.heap.size w' v (strsB (Dec.cutL s.data.toList)) ∧ Below w.heap.size w w' := by
  have HLE : Hid (s.data.toList.length = s.size) := hid (by simp)
  go_enter Tryd.func57, Tryd.ntmps57
  go_wp2_with fail
  go_loopw [5, 6, 7] (fun v fv i wr => ∃ (k f : Nat) (done : List (List UInt8)), i = .int .i64 k ∧ fv = .int .i64 f ∧ k ≤ s.size + 1 ∧ OwnS w.heap.size wr v (strsB done) ∧ CutAt s.data.toList k f done ∧ Below w.heap.size w wr) (fun _ _ i _ => s.size + 1 - (intOf i).toNat)
  case atStart => exact ⟨0, 0, [], rfl, rfl, Nat.zero_le _, OwnS.start w, CutAt.start _, Below.alloc (Below.refl _ _) (Nat.le_refl _) _⟩
  case round =>
    obtain ⟨k, f, done, rfl, rfl, hk, hown, hcut, hbel⟩ := hrel
    have HOWN := hid hown
    have HCUT := hid hcut
    have HBEL := hid hbel
    have HLEN := hid hcut.len
    clear hown hcut hbel
    by_cases hend : s.size < k
    · have HD := hid (HCUT.out.done (by rw [HLE.out]; exact hend))
      go_wp2_with fail
      go_ret
      exact ⟨_, rfl, by rw [← HD.out]; exact HOWN.out, HBEL.out⟩
    · have hfk : f ≤ k := HCUT.out.le (by rw [HLE.out]; omega)
      by_cases hlast : k = s.size
      · have HSTEP := hid (HCUT.out.last (by rw [HLE.out]; exact hlast))
        have heq : ((k : Int) == (s.size : Int)) = true := by subst hlast; simp
        have HLAST := hid hlast
        clear hlast
        have HT : Hid (strsB (done ++ [(s.data.toList.take k).drop f]) = strsB done ++ [s.extract f k]) := hid (by rw [strsB_snoc, ← piece_eq])
        go_wp2_with (at_builtin; refine wpList_snoc rfl (.tmp 26) (.tmp 31) rfl w.heap.size HBEL.out.size (s.extract f k) (strsB done) _ (by rw [strsB_length]; have := HLEN.out; rw [HLE.out] at this; omega) rfl rfl HOWN.out ?_; intro v' w1 ho1 hb1; have HO1 := hid ho1; have HB1 := hid (HBEL.out.trans hb1); clear ho1 hb1)
        go_roundw
        case rel => exact ⟨k + 1, k + 1, _, by go_num, by go_num, by have := HLAST.out; omega, by rw [HT.out]; exact HO1.out, HSTEP.out, HB1.out⟩
        case measure => simp [intOf]; omega
      · have hlt : k < s.size := by omega
        have hne : ((k : Int) == (s.size : Int)) = false := by simp; omega
        by_cases hc : s[k] = 44
        · have HSTEP := hid (HCUT.out.comma (by rw [HLE.out]; exact hlt) (show s.data.toList[k]'(by rw [HLE.out]; exact hlt) = 44 from hc))
          have h44 : ((s[k].toNat : Int) == 44) = true := by rw [hc]; rfl
          clear hc
          have HT : Hid (strsB (done ++ [(s.data.toList.take k).drop f]) = strsB done ++ [s.extract f k]) := hid (by rw [strsB_snoc, ← piece_eq])
          go_wp2_with (at_builtin; refine wpList_snoc rfl (.tmp 26) (.tmp 31) rfl w.heap.size HBEL.out.size (s.extract f k) (strsB done) _ (by rw [strsB_length]; have := HLEN.out; rw [HLE.out] at this; omega) rfl rfl HOWN.out ?_; intro v' w1 ho1 hb1; have HO1 := hid ho1; have HB1 := hid (HBEL.out.trans hb1); clear ho1 hb1)
          go_roundw
          case rel => exact ⟨k + 1, k + 1, _, by go_num, by go_num, by omega, by rw [HT.out]; exact HO1.out, HSTEP.out, HB1.out⟩
          case measure => simp [intOf]; omega
        · have HSTEP := hid (HCUT.out.other (by rw [HLE.out]; exact hlt) (show s.data.toList[k]'(by rw [HLE.out]; exact hlt) ≠ 44 from hc))
          have h44 : ((s[k].toNat : Int) == 44) = false := by
            refine beq_eq_false_iff_ne.2 fun h => hc (UInt8.toNat_inj.1 ?_)
            show s[k].toNat = 44
            omega
          clear hc
          go_wp2_with fail
          go_roundw
          case rel => exact ⟨k + 1, f, done, by go_num, rfl, by omega, HOWN.out, HSTEP.out, HBEL.out⟩
          case measure => simp [intOf]; omega
end Walk
end Go.Proofs.YtimablpgikebgaaDoor
