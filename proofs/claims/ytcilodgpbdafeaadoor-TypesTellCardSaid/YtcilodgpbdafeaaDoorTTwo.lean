/- The law's Two: one over two types' parts. -/
import Derived.Test.YtcilodgpbdafeaaDoorTSml
import Derived.Deep.CutRange
namespace Go.Proofs.YtcilodgpbdafeaaDoor
open Go.ChangeShapes Go.WideShapes Go.ChangeAt Go.RowKit
set_option linter.unusedVariables false
set_option linter.unusedSimpArgs false
/-- Parts whose places are small. -/
def Near (l : List Part) : Prop := ∀ p ∈ l, -1000000 ≤ p.a ∧ p.a ≤ 1000000 ∧ -1000000 ≤ p.b ∧ p.b ≤ 1000000
theorem shift_step {b : List Part} {k d : Nat} {p : Part} (h : b[k]? = some p) (a : List Part) : a ++ (b.take (k + 1)).map (shift d) = (a ++ (b.take k).map (shift d)) ++ [shift d p] := by
  rw [take_succ_some h, List.map_append, List.append_assoc]
  rfl
set_option maxRecDepth 100000 in
set_option maxHeartbeats 8000000 in
theorem c11 (kd : Int) (a b : List Part) (A A' : Option Addr) (c c' : Nat) (W : World) (ha : RT W A a) (hb : RT W A' b) (hla : a.length ≤ 3000) (hlb : b.length ≤ 3000) (hn : Near b) :
    Calls Tryd.prog 11 #[.int .i64 kd, .slice A a.length c, .slice A' b.length c'] W fun e W' => ∃ v, e = .returned v ∧ TypeBack W W' v (twoL kd a b) := by
  have HA := Lib.hid ha
  have HB := Lib.hid hb
  have HN := Lib.hid hn
  clear ha hb hn
  obtain ⟨i29, fi29, hz0, hz1, hz2⟩ := info_parts part_info
  have HO0 := Lib.hid (own_new W (xs := []) (n := 0) (s := 5) (e := 29) (b := W.heap.size) (Nat.le_refl _) rfl (by unfold maxLen; decide))
  have HR := Lib.hid (show Reads (W.alloc (.cells #[] 29)) W.heap.size 5 A a.length (a.flatMap partC) from Reads.alloc HA.out (Nat.le_refl _) _)
  have H29 := Lib.hid (show i29.zero = some (.agg #[.int .i64 0, .int .i64 0, .int .i64 0, .int .i64 0, .string ⟨#[]⟩]) ∧ i29.size = 5 ∧ i29.bytes = 48 from ⟨hz0, hz1, hz2⟩)
  clear hz0 hz1 hz2
  go_enter Tryd.func11, Tryd.ntmps11
  go_upto_region 2 with (at_builtin; refine wpList_append_any _ rfl (.tmp 10) (.tmp 11) 23 rfl W.heap.size 29 i29 _ 5 48 Tryd.underlying23 fi29 H29.out.1 H29.out.2.1 H29.out.2.2 rfl (by omega) (.slice (some ⟨W.heap.size, 0, none⟩) 0 0) 0 [] rfl HO0.out W.heap.size A a.length c (a.flatMap partC) rfl HR.out (parts_one a) (by unfold maxLen; omega) (by omega) (by rw [World.size_alloc]; omega) ?_; intro v1 w7 oA gA _)
  rw [Nat.zero_add, List.nil_append] at oA
  have HOA := Lib.hid oA
  have HB7 := Lib.hid (show Below W.heap.size W w7 from (below_new W _).grown gA (by rw [World.size_alloc]; omega) (fun k e => by injection e with e; rw [← e]; exact Nat.le_refl _))
  clear oA gA
  go_wp2_with fail
  go_loopw [7, 8] (fun v i wr => ∃ (k : Nat) (L : List Part) (n1 : Nat), k ≤ b.length ∧ i = .int .i64 k ∧ n1 ≤ 3000 + k ∧ L.length = n1 ∧ L = a ++ (b.take k).map (shift a.length) ∧ wr.ownsRow W.heap.size 29 5 v n1 (L.flatMap partC) ∧ Below W.heap.size W wr) (fun _ i _ => b.length - (intOf i).toNat)
  case atStart => exact ⟨0, a, a.length, by omega, rfl, by omega, rfl, by simp, HOA.out, HB7.out⟩
  case round =>
    obtain ⟨k, L, n1, hk, rfl, hn1, hll, hL, ho, hbl⟩ := hrel
    obtain ⟨A1, c1', rfl⟩ := own_form ho
    have HO := Lib.hid ho
    have HBl := Lib.hid hbl
    have HL := Lib.hid hL
    have HLl := Lib.hid hll
    clear ho hbl hL hll
    by_cases hlt : k < b.length
    · have hlk : (k : Int) < (b.length : Int) := by omega
      have hk0 : (0 : Int) ≤ (k : Int) := by omega
      obtain ⟨ad, rfl, _, hcs⟩ := ((HB.out.next HBl.out).partAt (List.getElem?_eq_getElem hlt))
      have hpk : b[k]? = some b[k] := List.getElem?_eq_getElem hlt
      generalize b[k] = p at hcs hpk
      have HCS := Lib.hid hcs
      have HPK := Lib.hid hpk
      have hnp := HN.out p (List.mem_of_getElem? hpk)
      clear hcs hpk
      obtain ⟨pk, pa, pb', pn, pt⟩ := p
      simp only at hnp
      obtain ⟨na1, na2, nb1, nb2⟩ := hnp
      by_cases h6 : pk = 6 ∨ pk = 8
      · rcases h6 with rfl | rfl
        · have HSh := Lib.hid (show shift a.length ⟨6, pa, pb', pn, pt⟩ = ⟨6, (pa + (a.length : Int)), (pb' + (a.length : Int)), pn, pt⟩ by simp [shift])
          go_upto_region 14 with (first | (refine wpList_load_at rfl 29 (.tmp 21) rfl (ad.add (k * 5)) rfl [.int .i64 6, .int .i64 pa, .int .i64 pb', .int .i64 pn, strV pt] _ HCS.out Tryd.underlying29 rfl (by kernel_rfl) ?_))
          have HB5 := Lib.hid (show Blk (wr.alloc (.cells #[.int .i64 6, .int .i64 (pa + (a.length : Int)), .int .i64 (pb' + (a.length : Int)), .int .i64 pn, strV pt] 29)) wr.heap.size 29 (partC ⟨6, (pa + (a.length : Int)), (pb' + (a.length : Int)), pn, pt⟩).toArray from Blk.new _ _ _)
          have HO5 := Lib.hid (own_next HO.out (below_new wr (.cells #[.int .i64 6, .int .i64 (pa + (a.length : Int)), .int .i64 (pb' + (a.length : Int)), .int .i64 pn, strV pt] 29)))
          have HBl5 := Lib.hid (HBl.out.alloc HBl.out.size (.cells #[.int .i64 6, .int .i64 (pa + (a.length : Int)), .int .i64 (pb' + (a.length : Int)), .int .i64 pn, strV pt] 29))
          generalize wr.alloc (.cells #[.int .i64 6, .int .i64 (pa + (a.length : Int)), .int .i64 (pb' + (a.length : Int)), .int .i64 pn, strV pt] 29) = w5 at HB5 HO5 HBl5 ⊢
          generalize wr.heap.size = pb at HB5 ⊢
          have c0 := HB5.out.cell 0
          have c1 := HB5.out.cell 1
          have c2 := HB5.out.cell 2
          have c3 := HB5.out.cell 3
          have c4 := HB5.out.cell 4
          replace c0 : w5.cell? ⟨pb, 0, none⟩ = some (.int .i64 6) := c0
          replace c1 : w5.cell? ⟨pb, 1, none⟩ = some (.int .i64 (pa + (a.length : Int))) := c1
          replace c2 : w5.cell? ⟨pb, 2, none⟩ = some (.int .i64 (pb' + (a.length : Int))) := c2
          replace c3 : w5.cell? ⟨pb, 3, none⟩ = some (.int .i64 pn) := c3
          replace c4 : w5.cell? ⟨pb, 4, none⟩ = some (strV pt) := c4
          go_wp2_with (at_builtin; refine wpList_append_any _ rfl (.tmp 49) (.tmp 51) 23 rfl W.heap.size 29 i29 _ 5 48 Tryd.underlying23 fi29 H29.out.1 H29.out.2.1 H29.out.2.2 rfl (by omega) (.slice A1 n1 c1') n1 (L.flatMap partC) rfl (own_next HO5.out (below_new _ _)) (w5.heap.size + 1) (some ⟨w5.heap.size, 0, none⟩) 1 1 (partC ⟨6, (pa + (a.length : Int)), (pb' + (a.length : Int)), pn, pt⟩) rfl (reads_part w5 _ _ rfl) (part_one _) (by unfold maxLen; omega) (by omega) (by rw [World.size_alloc]; have := HBl5.out.size; omega) ?_; intro v2 w8 oB gB _)
          have HOB := Lib.hid oB
          have HGB := Lib.hid gB
          clear oB gB
          go_roundw
          case rel =>
            refine ⟨k + 1, L ++ [⟨6, (pa + (a.length : Int)), (pb' + (a.length : Int)), pn, pt⟩], n1 + 1, by omega, by go_num, by omega, by rw [List.length_append, HLl.out]; rfl, by rw [HL.out, shift_step HPK.out, HSh.out], by rw [List.flatMap_append, show [(⟨6, (pa + (a.length : Int)), (pb' + (a.length : Int)), pn, pt⟩ : Part)].flatMap partC = partC ⟨6, (pa + (a.length : Int)), (pb' + (a.length : Int)), pn, pt⟩ by simp]; exact HOB.out, (HBl5.out.alloc HBl5.out.size _).grown HGB.out (by rw [World.size_alloc]; have := HBl5.out.size; omega) (fun j e => own_base HO5.out j e)⟩
          case measure => simp [intOf]; omega
        · have HSh := Lib.hid (show shift a.length ⟨8, pa, pb', pn, pt⟩ = ⟨8, (pa + (a.length : Int)), (pb' + (a.length : Int)), pn, pt⟩ by simp [shift])
          go_upto_region 14 with (first | (refine wpList_load_at rfl 29 (.tmp 21) rfl (ad.add (k * 5)) rfl [.int .i64 8, .int .i64 pa, .int .i64 pb', .int .i64 pn, strV pt] _ HCS.out Tryd.underlying29 rfl (by kernel_rfl) ?_))
          have HB5 := Lib.hid (show Blk (wr.alloc (.cells #[.int .i64 8, .int .i64 (pa + (a.length : Int)), .int .i64 (pb' + (a.length : Int)), .int .i64 pn, strV pt] 29)) wr.heap.size 29 (partC ⟨8, (pa + (a.length : Int)), (pb' + (a.length : Int)), pn, pt⟩).toArray from Blk.new _ _ _)
          have HO5 := Lib.hid (own_next HO.out (below_new wr (.cells #[.int .i64 8, .int .i64 (pa + (a.length : Int)), .int .i64 (pb' + (a.length : Int)), .int .i64 pn, strV pt] 29)))
          have HBl5 := Lib.hid (HBl.out.alloc HBl.out.size (.cells #[.int .i64 8, .int .i64 (pa + (a.length : Int)), .int .i64 (pb' + (a.length : Int)), .int .i64 pn, strV pt] 29))
          generalize wr.alloc (.cells #[.int .i64 8, .int .i64 (pa + (a.length : Int)), .int .i64 (pb' + (a.length : Int)), .int .i64 pn, strV pt] 29) = w5 at HB5 HO5 HBl5 ⊢
          generalize wr.heap.size = pb at HB5 ⊢
          have c0 := HB5.out.cell 0
          have c1 := HB5.out.cell 1
          have c2 := HB5.out.cell 2
          have c3 := HB5.out.cell 3
          have c4 := HB5.out.cell 4
          replace c0 : w5.cell? ⟨pb, 0, none⟩ = some (.int .i64 8) := c0
          replace c1 : w5.cell? ⟨pb, 1, none⟩ = some (.int .i64 (pa + (a.length : Int))) := c1
          replace c2 : w5.cell? ⟨pb, 2, none⟩ = some (.int .i64 (pb' + (a.length : Int))) := c2
          replace c3 : w5.cell? ⟨pb, 3, none⟩ = some (.int .i64 pn) := c3
          replace c4 : w5.cell? ⟨pb, 4, none⟩ = some (strV pt) := c4
          go_wp2_with (at_builtin; refine wpList_append_any _ rfl (.tmp 49) (.tmp 51) 23 rfl W.heap.size 29 i29 _ 5 48 Tryd.underlying23 fi29 H29.out.1 H29.out.2.1 H29.out.2.2 rfl (by omega) (.slice A1 n1 c1') n1 (L.flatMap partC) rfl (own_next HO5.out (below_new _ _)) (w5.heap.size + 1) (some ⟨w5.heap.size, 0, none⟩) 1 1 (partC ⟨8, (pa + (a.length : Int)), (pb' + (a.length : Int)), pn, pt⟩) rfl (reads_part w5 _ _ rfl) (part_one _) (by unfold maxLen; omega) (by omega) (by rw [World.size_alloc]; have := HBl5.out.size; omega) ?_; intro v2 w8 oB gB _)
          have HOB := Lib.hid oB
          have HGB := Lib.hid gB
          clear oB gB
          go_roundw
          case rel =>
            refine ⟨k + 1, L ++ [⟨8, (pa + (a.length : Int)), (pb' + (a.length : Int)), pn, pt⟩], n1 + 1, by omega, by go_num, by omega, by rw [List.length_append, HLl.out]; rfl, by rw [HL.out, shift_step HPK.out, HSh.out], by rw [List.flatMap_append, show [(⟨8, (pa + (a.length : Int)), (pb' + (a.length : Int)), pn, pt⟩ : Part)].flatMap partC = partC ⟨8, (pa + (a.length : Int)), (pb' + (a.length : Int)), pn, pt⟩ by simp]; exact HOB.out, (HBl5.out.alloc HBl5.out.size _).grown HGB.out (by rw [World.size_alloc]; have := HBl5.out.size; omega) (fun j e => own_base HO5.out j e)⟩
          case measure => simp [intOf]; omega
      · have f6 : (pk == 6) = false := beq_false_of_ne fun e => h6 (.inl e)
        have f8 : (pk == 8) = false := beq_false_of_ne fun e => h6 (.inr e)
        by_cases h7 : pk = 7 ∨ pk = 9
        · clear f6 f8 h6
          rcases h7 with rfl | rfl
          · have HSh := Lib.hid (show shift a.length ⟨7, pa, pb', pn, pt⟩ = ⟨7, (pa + (a.length : Int)), pb', pn, pt⟩ by simp [shift])
            go_upto_region 14 with (first | (refine wpList_load_at rfl 29 (.tmp 21) rfl (ad.add (k * 5)) rfl [.int .i64 7, .int .i64 pa, .int .i64 pb', .int .i64 pn, strV pt] _ HCS.out Tryd.underlying29 rfl (by kernel_rfl) ?_))
            have HB5 := Lib.hid (show Blk (wr.alloc (.cells #[.int .i64 7, .int .i64 (pa + (a.length : Int)), .int .i64 pb', .int .i64 pn, strV pt] 29)) wr.heap.size 29 (partC ⟨7, (pa + (a.length : Int)), pb', pn, pt⟩).toArray from Blk.new _ _ _)
            have HO5 := Lib.hid (own_next HO.out (below_new wr (.cells #[.int .i64 7, .int .i64 (pa + (a.length : Int)), .int .i64 pb', .int .i64 pn, strV pt] 29)))
            have HBl5 := Lib.hid (HBl.out.alloc HBl.out.size (.cells #[.int .i64 7, .int .i64 (pa + (a.length : Int)), .int .i64 pb', .int .i64 pn, strV pt] 29))
            generalize wr.alloc (.cells #[.int .i64 7, .int .i64 (pa + (a.length : Int)), .int .i64 pb', .int .i64 pn, strV pt] 29) = w5 at HB5 HO5 HBl5 ⊢
            generalize wr.heap.size = pb at HB5 ⊢
            have c0 := HB5.out.cell 0
            have c1 := HB5.out.cell 1
            have c2 := HB5.out.cell 2
            have c3 := HB5.out.cell 3
            have c4 := HB5.out.cell 4
            replace c0 : w5.cell? ⟨pb, 0, none⟩ = some (.int .i64 7) := c0
            replace c1 : w5.cell? ⟨pb, 1, none⟩ = some (.int .i64 (pa + (a.length : Int))) := c1
            replace c2 : w5.cell? ⟨pb, 2, none⟩ = some (.int .i64 pb') := c2
            replace c3 : w5.cell? ⟨pb, 3, none⟩ = some (.int .i64 pn) := c3
            replace c4 : w5.cell? ⟨pb, 4, none⟩ = some (strV pt) := c4
            go_wp2_with (at_builtin; refine wpList_append_any _ rfl (.tmp 49) (.tmp 51) 23 rfl W.heap.size 29 i29 _ 5 48 Tryd.underlying23 fi29 H29.out.1 H29.out.2.1 H29.out.2.2 rfl (by omega) (.slice A1 n1 c1') n1 (L.flatMap partC) rfl (own_next HO5.out (below_new _ _)) (w5.heap.size + 1) (some ⟨w5.heap.size, 0, none⟩) 1 1 (partC ⟨7, (pa + (a.length : Int)), pb', pn, pt⟩) rfl (reads_part w5 _ _ rfl) (part_one _) (by unfold maxLen; omega) (by omega) (by rw [World.size_alloc]; have := HBl5.out.size; omega) ?_; intro v2 w8 oB gB _)
            have HOB := Lib.hid oB
            have HGB := Lib.hid gB
            clear oB gB
            go_roundw
            case rel =>
              refine ⟨k + 1, L ++ [⟨7, (pa + (a.length : Int)), pb', pn, pt⟩], n1 + 1, by omega, by go_num, by omega, by rw [List.length_append, HLl.out]; rfl, by rw [HL.out, shift_step HPK.out, HSh.out], by rw [List.flatMap_append, show [(⟨7, (pa + (a.length : Int)), pb', pn, pt⟩ : Part)].flatMap partC = partC ⟨7, (pa + (a.length : Int)), pb', pn, pt⟩ by simp]; exact HOB.out, (HBl5.out.alloc HBl5.out.size _).grown HGB.out (by rw [World.size_alloc]; have := HBl5.out.size; omega) (fun j e => own_base HO5.out j e)⟩
            case measure => simp [intOf]; omega
          · have HSh := Lib.hid (show shift a.length ⟨9, pa, pb', pn, pt⟩ = ⟨9, (pa + (a.length : Int)), pb', pn, pt⟩ by simp [shift])
            go_upto_region 14 with (first | (refine wpList_load_at rfl 29 (.tmp 21) rfl (ad.add (k * 5)) rfl [.int .i64 9, .int .i64 pa, .int .i64 pb', .int .i64 pn, strV pt] _ HCS.out Tryd.underlying29 rfl (by kernel_rfl) ?_))
            have HB5 := Lib.hid (show Blk (wr.alloc (.cells #[.int .i64 9, .int .i64 (pa + (a.length : Int)), .int .i64 pb', .int .i64 pn, strV pt] 29)) wr.heap.size 29 (partC ⟨9, (pa + (a.length : Int)), pb', pn, pt⟩).toArray from Blk.new _ _ _)
            have HO5 := Lib.hid (own_next HO.out (below_new wr (.cells #[.int .i64 9, .int .i64 (pa + (a.length : Int)), .int .i64 pb', .int .i64 pn, strV pt] 29)))
            have HBl5 := Lib.hid (HBl.out.alloc HBl.out.size (.cells #[.int .i64 9, .int .i64 (pa + (a.length : Int)), .int .i64 pb', .int .i64 pn, strV pt] 29))
            generalize wr.alloc (.cells #[.int .i64 9, .int .i64 (pa + (a.length : Int)), .int .i64 pb', .int .i64 pn, strV pt] 29) = w5 at HB5 HO5 HBl5 ⊢
            generalize wr.heap.size = pb at HB5 ⊢
            have c0 := HB5.out.cell 0
            have c1 := HB5.out.cell 1
            have c2 := HB5.out.cell 2
            have c3 := HB5.out.cell 3
            have c4 := HB5.out.cell 4
            replace c0 : w5.cell? ⟨pb, 0, none⟩ = some (.int .i64 9) := c0
            replace c1 : w5.cell? ⟨pb, 1, none⟩ = some (.int .i64 (pa + (a.length : Int))) := c1
            replace c2 : w5.cell? ⟨pb, 2, none⟩ = some (.int .i64 pb') := c2
            replace c3 : w5.cell? ⟨pb, 3, none⟩ = some (.int .i64 pn) := c3
            replace c4 : w5.cell? ⟨pb, 4, none⟩ = some (strV pt) := c4
            go_wp2_with (at_builtin; refine wpList_append_any _ rfl (.tmp 49) (.tmp 51) 23 rfl W.heap.size 29 i29 _ 5 48 Tryd.underlying23 fi29 H29.out.1 H29.out.2.1 H29.out.2.2 rfl (by omega) (.slice A1 n1 c1') n1 (L.flatMap partC) rfl (own_next HO5.out (below_new _ _)) (w5.heap.size + 1) (some ⟨w5.heap.size, 0, none⟩) 1 1 (partC ⟨9, (pa + (a.length : Int)), pb', pn, pt⟩) rfl (reads_part w5 _ _ rfl) (part_one _) (by unfold maxLen; omega) (by omega) (by rw [World.size_alloc]; have := HBl5.out.size; omega) ?_; intro v2 w8 oB gB _)
            have HOB := Lib.hid oB
            have HGB := Lib.hid gB
            clear oB gB
            go_roundw
            case rel =>
              refine ⟨k + 1, L ++ [⟨9, (pa + (a.length : Int)), pb', pn, pt⟩], n1 + 1, by omega, by go_num, by omega, by rw [List.length_append, HLl.out]; rfl, by rw [HL.out, shift_step HPK.out, HSh.out], by rw [List.flatMap_append, show [(⟨9, (pa + (a.length : Int)), pb', pn, pt⟩ : Part)].flatMap partC = partC ⟨9, (pa + (a.length : Int)), pb', pn, pt⟩ by simp]; exact HOB.out, (HBl5.out.alloc HBl5.out.size _).grown HGB.out (by rw [World.size_alloc]; have := HBl5.out.size; omega) (fun j e => own_base HO5.out j e)⟩
            case measure => simp [intOf]; omega
        · have f7 : (pk == 7) = false := beq_false_of_ne fun e => h7 (.inl e)
          have f9 : (pk == 9) = false := beq_false_of_ne fun e => h7 (.inr e)
          have HK6 := Lib.hid h6
          have HK7 := Lib.hid h7
          clear h6 h7
          have HSh := Lib.hid (show shift a.length ⟨pk, pa, pb', pn, pt⟩ = ⟨pk, pa, pb', pn, pt⟩ by unfold shift; rw [if_neg HK6.out, if_neg HK7.out])
          go_upto_region 14 with (first | (refine wpList_load_at rfl 29 (.tmp 21) rfl (ad.add (k * 5)) rfl [.int .i64 pk, .int .i64 pa, .int .i64 pb', .int .i64 pn, strV pt] _ HCS.out Tryd.underlying29 rfl (by kernel_rfl) ?_))
          have HB5 := Lib.hid (show Blk (wr.alloc (.cells #[.int .i64 pk, .int .i64 pa, .int .i64 pb', .int .i64 pn, strV pt] 29)) wr.heap.size 29 (partC ⟨pk, pa, pb', pn, pt⟩).toArray from Blk.new _ _ _)
          have HO5 := Lib.hid (own_next HO.out (below_new wr (.cells #[.int .i64 pk, .int .i64 pa, .int .i64 pb', .int .i64 pn, strV pt] 29)))
          have HBl5 := Lib.hid (HBl.out.alloc HBl.out.size (.cells #[.int .i64 pk, .int .i64 pa, .int .i64 pb', .int .i64 pn, strV pt] 29))
          generalize wr.alloc (.cells #[.int .i64 pk, .int .i64 pa, .int .i64 pb', .int .i64 pn, strV pt] 29) = w5 at HB5 HO5 HBl5 ⊢
          generalize wr.heap.size = pb at HB5 ⊢
          have c0 := HB5.out.cell 0
          have c1 := HB5.out.cell 1
          have c2 := HB5.out.cell 2
          have c3 := HB5.out.cell 3
          have c4 := HB5.out.cell 4
          replace c0 : w5.cell? ⟨pb, 0, none⟩ = some (.int .i64 pk) := c0
          replace c1 : w5.cell? ⟨pb, 1, none⟩ = some (.int .i64 pa) := c1
          replace c2 : w5.cell? ⟨pb, 2, none⟩ = some (.int .i64 pb') := c2
          replace c3 : w5.cell? ⟨pb, 3, none⟩ = some (.int .i64 pn) := c3
          replace c4 : w5.cell? ⟨pb, 4, none⟩ = some (strV pt) := c4
          go_wp2_with (at_builtin; refine wpList_append_any _ rfl (.tmp 49) (.tmp 51) 23 rfl W.heap.size 29 i29 _ 5 48 Tryd.underlying23 fi29 H29.out.1 H29.out.2.1 H29.out.2.2 rfl (by omega) (.slice A1 n1 c1') n1 (L.flatMap partC) rfl (own_next HO5.out (below_new _ _)) (w5.heap.size + 1) (some ⟨w5.heap.size, 0, none⟩) 1 1 (partC ⟨pk, pa, pb', pn, pt⟩) rfl (reads_part w5 _ _ rfl) (part_one _) (by unfold maxLen; omega) (by omega) (by rw [World.size_alloc]; have := HBl5.out.size; omega) ?_; intro v2 w8 oB gB _)
          have HOB := Lib.hid oB
          have HGB := Lib.hid gB
          clear oB gB
          go_roundw
          case rel =>
            refine ⟨k + 1, L ++ [⟨pk, pa, pb', pn, pt⟩], n1 + 1, by omega, by go_num, by omega, by rw [List.length_append, HLl.out]; rfl, by rw [HL.out, shift_step HPK.out, HSh.out], by rw [List.flatMap_append, show [(⟨pk, pa, pb', pn, pt⟩ : Part)].flatMap partC = partC ⟨pk, pa, pb', pn, pt⟩ by simp]; exact HOB.out, (HBl5.out.alloc HBl5.out.size _).grown HGB.out (by rw [World.size_alloc]; have := HBl5.out.size; omega) (fun j e => own_base HO5.out j e)⟩
          case measure => simp [intOf]; omega
    · have hkb : k = b.length := by omega
      subst hkb
      have hlk : ¬ ((b.length : Int) < (b.length : Int)) := by omega
      go_wp2_with (at_builtin; refine wpList_append_any _ rfl (.tmp 53) (.tmp 65) 23 rfl W.heap.size 29 i29 _ 5 48 Tryd.underlying23 fi29 H29.out.1 H29.out.2.1 H29.out.2.2 rfl (by omega) (.slice A1 n1 c1') n1 (L.flatMap partC) rfl (own_next HO.out (below_new _ _)) (wr.heap.size + 1) (some ⟨wr.heap.size, 0, none⟩) 1 1 (partC ⟨kd, (a.length : Int) - 1, (a.length : Int) + (b.length : Int) - 1, 0, []⟩) rfl (reads_part wr _ _ rfl) (part_one _) (by unfold maxLen; omega) (by omega) (by rw [World.size_alloc]; have := HBl.out.size; omega) ?_; intro v2 w8 oB gB _)
      have HOB := Lib.hid oB
      have HGB := Lib.hid gB
      clear oB gB
      go_ret
      refine ⟨_, rfl, ?_, (HBl.out.alloc HBl.out.size _).grown HGB.out (by rw [World.size_alloc]; have := HBl.out.size; omega) (fun j e => own_base HO.out j e)⟩
      have e : twoL kd a b = L ++ [⟨kd, (a.length : Int) - 1, (a.length : Int) + (b.length : Int) - 1, 0, []⟩] := by
        rw [HL.out, List.take_length]
        rfl
      rw [e, List.length_append, HLl.out, List.flatMap_append, show [(⟨kd, (a.length : Int) - 1, (a.length : Int) + (b.length : Int) - 1, 0, []⟩ : Part)].flatMap partC = partC ⟨kd, (a.length : Int) - 1, (a.length : Int) + (b.length : Int) - 1, 0, []⟩ by simp]
      exact HOB.out
end Go.Proofs.YtcilodgpbdafeaaDoor
