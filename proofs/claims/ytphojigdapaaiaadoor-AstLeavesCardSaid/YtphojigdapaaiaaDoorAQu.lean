/- lex.Quote: it answers. -/
import Derived.Test.YtphojigdapaaiaaDoorAOf2
import Derived.Laws.BytesArg
namespace Go.Proofs.YtphojigdapaaiaaDoor
open Go.ChangeShapes Go.WideShapes Go.ChangeAt Go.RowKit
set_option linter.unusedVariables false
set_option linter.unusedSimpArgs false
theorem u8_info : (Tryd.prog.info? 5).map (fun i => (i.zero, i.size, i.bytes)) = some (some (.int .u8 0), 1, 1) := by kernel_rfl
theorem cellsB_one (l : List UInt8) : ∀ u ∈ cellsB l, u.oneCell' = true := fun u hu => by
  obtain ⟨p, _, rfl⟩ := List.mem_map.1 hu
  rfl
theorem cellsB_snoc (l m : List UInt8) : cellsB (l ++ m) = cellsB l ++ cellsB m := List.map_append ..
theorem run_conv {w : World} {B n : Nat} {A : Option Addr} {c : Nat} {l : List UInt8} (hn : l.length = n) (hr : Reads w B 1 A n (cellsB l)) : (convert 40 9 (.slice A n c)).run Tryd.prog w = .ok (.string ⟨l.toArray⟩) w := by
  subst hn
  cases A with
  | none =>
    have hl : l = [] := by
      cases l with
      | nil => rfl
      | cons x l => obtain ⟨ad, e, _⟩ := hr.2 (by simp); cases e
    subst hl
    exact run_convert_bytes_nil _ 40 5 Tryd.underlying40 Tryd.underlying5 _ _ 9 Tryd.underlying9
  | some ad =>
    refine run_convert_bytes_back w 40 9 5 ad c l Tryd.underlying40 Tryd.underlying5 Tryd.underlying9 (fun j hj => ?_)
    obtain ⟨ad', e, _, hc⟩ := hr.2 (by omega)
    cases e
    refine hc j _ ?_
    unfold cellsB
    rw [List.getElem?_map, List.getElem?_eq_getElem hj]
    rfl
/-- A text and whether it is one. -/
def QuoteEnd (w : World) (e : Ending) (w' : World) : Prop := ∃ (s : ByteArray) (r : Bool), e = .returned (.tuple #[.string s, .bool r]) ∧ Below w.heap.size w w'
/-- The bytes that were made. -/
structure BRow (w0 w : World) (A : Option Addr) (c : Nat) (L : List UInt8) : Prop where
  own : w.ownsRow w0.heap.size 5 1 (.slice A L.length c) L.length (cellsB L)
  low : Below w0.heap.size w0 w
theorem BRow.push {w0 w w' : World} {A : Option Addr} {c : Nat} {L : List UInt8} (h : BRow w0 w A c L) {M : List UInt8} {v' : Value} (o : w'.ownsRow w0.heap.size 5 1 v' (L.length + M.length) (cellsB L ++ cellsB M))
    (g : (w.alloc (.cells (cellsB M).toArray 5)).grownBy w' (Value.ownBlock (.slice A L.length c))) : ∃ A' c', v' = .slice A' (L ++ M).length c' ∧ BRow w0 w' A' c' (L ++ M) := by
  have o' : w'.ownsRow w0.heap.size 5 1 v' (L ++ M).length (cellsB (L ++ M)) := by rw [cellsB_snoc, List.length_append]; exact o
  obtain ⟨A', c', rfl⟩ := own_form o'
  refine ⟨A', c', rfl, o', ?_⟩
  exact (h.low.alloc h.low.size _).grown g (by rw [World.size_alloc]; have := h.low.size; omega) (fun k hk => (h.own.lt k hk).1)
theorem newB (w : World) (M : List UInt8) : Reads (w.alloc (.cells (cellsB M).toArray 5)) (w.heap.size + 1) 1 (some ⟨w.heap.size, 0, none⟩) M.length (cellsB M) :=
  reads_blkN (Blk.new w 5 (cellsB M).toArray) (by rw [show (cellsB M).length = M.length from List.length_map ..]; omega)
set_option maxRecDepth 100000 in
set_option maxHeartbeats 4000000 in
theorem c53 (s : List UInt8) (hs : s.length ≤ 281474976710656) (w : World) : Calls Tryd.prog 53 #[strV s] w (QuoteEnd w) := by
  have hz := strV_size s
  show Calls Tryd.prog 53 #[.string ⟨s.toArray⟩] w _
  obtain ⟨i5, fi5, hz0, hz1, hz2⟩ := info_parts u8_info
  have H5 := Lib.hid (show i5.zero = some (.int .u8 0) ∧ i5.size = 1 ∧ i5.bytes = 1 from ⟨hz0, hz1, hz2⟩)
  clear hz0 hz1 hz2
  by_cases hl : s.length ≤ 60
  · have hl' : (s.length : Int) ≤ 60 := by omega
    have hB0 : BRow w (w.alloc (.cells #[.int .u8 34] 5)) (some ⟨w.heap.size, 0, none⟩) 1 [34] := ⟨own_new w (Nat.le_refl _) rfl (by unfold maxLen; decide), below_new w _⟩
    have HB0 := Lib.hid hB0
    clear hB0
    go_enter Tryd.func53, Tryd.ntmps53
    go_wp2_with fail
    generalize w.alloc (.cells #[.int .u8 34] 5) = w0 at HB0 ⊢
    generalize w.heap.size = xb at HB0 ⊢
    go_loopw [4, 13] (fun b i wr => ∃ (k : Nat) (L : List UInt8) (A : Option Addr) (c : Nat), k ≤ s.length ∧ i = .int .i64 k ∧ b = .slice A L.length c ∧ BRow w wr A c L ∧ L.length ≤ 2 * k + 1) (fun _ i _ => s.length - (intOf i).toNat)
    case atStart => exact ⟨0, [34], _, 1, by omega, rfl, rfl, HB0.out, by simp⟩
    case round =>
      obtain ⟨k, L, A, c, hk, rfl, rfl, hb, hL⟩ := hrel
      have HB := Lib.hid hb
      have HL := Lib.hid (show L.length ≤ 121 by omega)
      have HL2 := Lib.hid hL
      clear hb hL
      by_cases hlt : k < s.length
      · have hlk : (k : Int) < (s.length : Int) := by omega
        have hk0 : (0 : Int) ≤ (k : Int) := by omega
        go_upto_region 9 with fail
        generalize hq : (ByteArray.mk s.toArray)[k]'(by rw [hz]; exact hlt) = q
        clear hq
        by_cases h10 : (q.toNat : Int) = 10
        · have e1 : ((q.toNat : Int) == 10) = true := beq_iff_eq.2 h10
          go_wp2_with (at_builtin; refine wpList_append_any _ rfl (.tmp 26) (.tmp 27) 40 rfl w.heap.size 5 i5 _ 1 1 Tryd.underlying40 fi5 H5.out.1 H5.out.2.1 H5.out.2.2 rfl (by omega) (.slice A L.length c) L.length (cellsB L) rfl (own_next HB.out.own (below_new _ _)) (wr.heap.size + 1) (some ⟨wr.heap.size, 0, none⟩) 2 2 (cellsB [92, 110]) rfl (newB wr [92, 110]) (cellsB_one _) (by unfold maxLen; have := HL.out; omega) (by have := HL.out; omega) (by rw [World.size_alloc]; have := HB.out.low.size; omega) ?_; intro v1 w7 oA gA nA; obtain ⟨A1, c1, rfl, hB1⟩ := HB.out.push oA gA; have HB1 := Lib.hid hB1; clear oA gA nA hB1)
          go_roundw
          case rel => exact ⟨k + 1, _, A1, c1, by omega, by go_num, by rw [List.length_append]; rfl, HB1.out, by have := HL2.out; rw [List.length_append]; simp only [List.length_cons, List.length_nil]; omega⟩
          case measure => simp [intOf]; omega
        have e1 : ((q.toNat : Int) == 10) = false := beq_false_of_ne h10
        by_cases h31 : (q.toNat : Int) < 32
        · go_wp2_with fail
          go_ret2
          exact ⟨_, _, rfl, HB.out.low⟩
        by_cases h126 : (126 : Int) < (q.toNat : Int)
        · go_wp2_with fail
          go_ret2
          exact ⟨_, _, rfl, HB.out.low⟩
        by_cases h34 : (q.toNat : Int) = 34
        · have e2 : ((q.toNat : Int) == 34) = true := beq_iff_eq.2 h34
          go_wp2_with (at_builtin; refine wpList_append_any _ rfl (.tmp 43) (.tmp 45) 40 rfl w.heap.size 5 i5 _ 1 1 Tryd.underlying40 fi5 H5.out.1 H5.out.2.1 H5.out.2.2 rfl (by omega) (.slice A L.length c) L.length (cellsB L) rfl (own_next HB.out.own (below_new _ _)) (wr.heap.size + 1) (some ⟨wr.heap.size, 0, none⟩) 2 2 (cellsB [92, 34]) rfl (newB wr [92, 34]) (cellsB_one _) (by unfold maxLen; have := HL.out; omega) (by have := HL.out; omega) (by rw [World.size_alloc]; have := HB.out.low.size; omega) ?_; intro v1 w7 oA gA nA; obtain ⟨A1, c1, rfl, hB1⟩ := HB.out.push oA gA; have HB1 := Lib.hid hB1; clear oA gA nA hB1)
          go_roundw
          case rel => exact ⟨k + 1, _, A1, c1, by omega, by go_num, by rw [List.length_append]; rfl, HB1.out, by have := HL2.out; rw [List.length_append]; simp only [List.length_cons, List.length_nil]; omega⟩
          case measure => simp [intOf]; omega
        have e2 : ((q.toNat : Int) == 34) = false := beq_false_of_ne h34
        by_cases h92 : (q.toNat : Int) = 92
        · have e3 : ((q.toNat : Int) == 92) = true := beq_iff_eq.2 h92
          go_wp2_with (at_builtin; refine wpList_append_any _ rfl (.tmp 43) (.tmp 45) 40 rfl w.heap.size 5 i5 _ 1 1 Tryd.underlying40 fi5 H5.out.1 H5.out.2.1 H5.out.2.2 rfl (by omega) (.slice A L.length c) L.length (cellsB L) rfl (own_next HB.out.own (below_new _ _)) (wr.heap.size + 1) (some ⟨wr.heap.size, 0, none⟩) 2 2 (cellsB [92, 92]) rfl (newB wr [92, 92]) (cellsB_one _) (by unfold maxLen; have := HL.out; omega) (by have := HL.out; omega) (by rw [World.size_alloc]; have := HB.out.low.size; omega) ?_; intro v1 w7 oA gA nA; obtain ⟨A1, c1, rfl, hB1⟩ := HB.out.push oA gA; have HB1 := Lib.hid hB1; clear oA gA nA hB1)
          go_roundw
          case rel => exact ⟨k + 1, _, A1, c1, by omega, by go_num, by rw [List.length_append]; rfl, HB1.out, by have := HL2.out; rw [List.length_append]; simp only [List.length_cons, List.length_nil]; omega⟩
          case measure => simp [intOf]; omega
        have e3 : ((q.toNat : Int) == 92) = false := beq_false_of_ne h92
        go_wp2_with (at_builtin; refine wpList_append_any _ rfl (.tmp 19) (.tmp 21) 40 rfl w.heap.size 5 i5 _ 1 1 Tryd.underlying40 fi5 H5.out.1 H5.out.2.1 H5.out.2.2 rfl (by omega) (.slice A L.length c) L.length (cellsB L) rfl (own_next HB.out.own (below_new _ _)) (wr.heap.size + 1) (some ⟨wr.heap.size, 0, none⟩) 1 1 (cellsB [q]) rfl (newB wr [q]) (cellsB_one _) (by unfold maxLen; have := HL.out; omega) (by have := HL.out; omega) (by rw [World.size_alloc]; have := HB.out.low.size; omega) ?_; intro v1 w7 oA gA nA; obtain ⟨A1, c1, rfl, hB1⟩ := HB.out.push oA gA; have HB1 := Lib.hid hB1; clear oA gA nA hB1)
        go_roundw
        case rel => exact ⟨k + 1, _, A1, c1, by omega, by go_num, by rw [List.length_append]; rfl, HB1.out, by have := HL2.out; rw [List.length_append]; simp only [List.length_cons, List.length_nil]; omega⟩
        case measure => simp [intOf]; omega
      · obtain rfl : k = s.length := by omega
        have hlk : ¬ ((s.length : Int) < (s.length : Int)) := by omega
        go_upto_region 16 with fail
        go_wp2_with (at_builtin; refine wpList_append_any _ rfl (.tmp 48) (.tmp 49) 40 rfl w.heap.size 5 i5 _ 1 1 Tryd.underlying40 fi5 H5.out.1 H5.out.2.1 H5.out.2.2 rfl (by omega) (.slice A L.length c) L.length (cellsB L) rfl (own_next HB.out.own (below_new _ _)) (wr.heap.size + 1) (some ⟨wr.heap.size, 0, none⟩) 1 1 (cellsB [34]) rfl (newB wr [34]) (cellsB_one _) (by unfold maxLen; have := HL.out; omega) (by have := HL.out; omega) (by rw [World.size_alloc]; have := HB.out.low.size; omega) ?_; intro v1 w7 oA gA nA; obtain ⟨A1, c1, rfl, hB1⟩ := HB.out.push oA gA; have HB1 := Lib.hid hB1; have hcv : (convert 40 9 (.slice A1 (L.length + 1) c1)).run Tryd.prog w7 = .ok (.string ⟨(L ++ [34]).toArray⟩) w7 := run_conv (by rw [List.length_append]; rfl) (by have h9 := Reads.of_own hB1.own; rw [List.length_append] at h9; exact h9); clear oA gA nA hB1)
        go_ret2
        exact ⟨_, _, rfl, HB1.out.low⟩
  · have hl' : (60 : Int) < (s.length : Int) := by omega
    go_enter Tryd.func53, Tryd.ntmps53
    go_wp2_with fail
    go_ret2
    exact ⟨_, _, rfl, Below.refl _ _⟩
end Go.Proofs.YtphojigdapaaiaaDoor
