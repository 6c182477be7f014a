/- stockpotkeep.LargeProgram: is a program too large for a statement. -/
import Derived.Test.YtiphicejaljhiaaDoorPro
import Derived.Test.YtiphicejaljhiaaDoorOps
namespace Go.Proofs.YtiphicejaljhiaaDoor
open Go.ChangeShapes Go.WideShapes Go.ChangeAt Go.RowKit
/-- What is counted: on and on, till it is above 3000. -/
def lgS : Int → List Int → Int
  | n, [] => n
  | n, x :: l => if n ≤ 3000 then lgS (wrap64 (n + x)) l else n
def lgF (q : PrMem) : List Int := q.L.map fun x => (x.fn.code.length : Int)
def lgT (q : PrMem) : List Int := q.S.map fun s => if (3000 : Int) < s.length then 3000 else (s.length : Int)
def lgM (q : PrMem) : List Int := q.M.map fun x => (x.fm.cons.length : Int)
def gLarge (q : PrMem) : Bool := decide (3000 < lgS (lgS (lgS (wrap64 (wrap64 ((q.L.length : Int) + q.S.length) + q.M.length)) (lgF q)) (lgT q)) (lgM q))
theorem lgS_done {n : Int} {l : List Int} (h : ¬ n ≤ 3000 ∨ l = []) : lgS n l = n := by
  cases l with
  | nil => rfl
  | cons x l =>
    rcases h with h | h
    · rw [lgS, if_neg h]
    · cases h
theorem lgS_more {n x : Int} {l l' : List Int} (h : n ≤ 3000) (e : l = x :: l') : lgS n l = lgS (wrap64 (n + x)) l' := by
  rw [e, lgS, if_pos h]
set_option maxRecDepth 100000 in
set_option maxHeartbeats 2000000 in
theorem c25 (q : PrMem) (w : World) (hq : PrOk w w.heap.size q) :
    Calls Tryd.prog 25 #[q.val] w fun e w' => e = .returned (.bool (gLarge q)) ∧ Below w.heap.size w w' := by
  unfold gLarge
  generalize hlf : lgF q = LF
  generalize hlt : lgT q = LT
  generalize hlm : lgM q = LM
  obtain ⟨AF, cF, L, AS, cS, S, AM, cM, M⟩ := q
  obtain ⟨h1, h2, h3, h4, h5, l1, l2, l3⟩ := hq
  simp only [PrMem.val, lgF, lgT, lgM] at h1 h2 h3 h4 h5 l1 l2 l3 hlf hlt hlm ⊢
  unfold maxLen at l1 l2 l3
  have H2 := Lib.hid h2
  have H5 := Lib.hid h5
  have HLF := Lib.hid hlf
  have HLT := Lib.hid hlt
  have HLM := Lib.hid hlm
  clear h2 h5 hlf hlt hlm
  have P1 := Blk.new w 42 #[.slice AF L.length cF, .slice AS S.length cS, .slice AM M.length cM]
  have b1 := below_new w (.cells #[.slice AF L.length cF, .slice AS S.length cS, .slice AM M.length cM] 42)
  have c0 := P1.cell 0
  have c1 := P1.cell 1
  have c2 := P1.cell 2
  have R1 := h1.below b1
  have R3 := h3.below b1
  have R4 := h4.below b1
  have B1 := Lib.hid b1
  clear b1
  generalize hn0 : wrap64 (wrap64 ((L.length : Int) + S.length) + M.length) = n0
  have HN0 := Lib.hid hn0
  clear hn0
  go_enter Tryd.func25, Tryd.ntmps25
  go_wp2_with fail
  go_loopw [4, 3] (fun i nv wr => ∃ (k : Nat) (x : Int), k ≤ L.length ∧ i = .int .i64 k ∧ nv = .int .i64 x ∧ lgS n0 LF = lgS x (LF.drop k) ∧ wr = w.alloc (.cells #[.slice AF L.length cF, .slice AS S.length cS, .slice AM M.length cM] 42)) (fun i _ _ => L.length - (intOf i).toNat)
  case atStart => exact ⟨0, _, by omega, rfl, rfl, by rw [← HN0.out]; rfl, rfl⟩
  case round =>
    obtain ⟨k, x0, hk, rfl, rfl, hg, rfl⟩ := hrel
    have HG := Lib.hid hg
    clear hg
    by_cases hlt : k < L.length
    · have hl : (k : Int) < (L.length : Int) := by omega
      have fl : decide ((k : Int) < (L.length : Int)) = true := decide_eq_true hl
      by_cases hx : x0 ≤ 3000
      · have fx : decide (x0 ≤ 3000) = true := decide_eq_true hx
        obtain ⟨ad, rfl, hbl, hcs⟩ := Reads.rowAt (f := Fnv.cells) (m := 3) (fun _ => rfl) R1 (by decide) (List.getElem?_eq_getElem hlt)
        have hd : LF.drop k = (L[k].fn.code.length : Int) :: LF.drop (k + 1) := by
          rw [← HLF.out, drop_at (by rw [List.length_map]; exact hlt), List.getElem_map]
        have hcell : (w.alloc (.cells #[.slice (some ad) L.length cF, .slice AS S.length cS, .slice AM M.length cM] 42)).cell? ⟨(ad.add (k * 3)).block, (ad.add (k * 3)).off + 2, none⟩ = _ := hcs 2 _ rfl
        clear hcs
        generalize L[k] = y at hcell hd
        have HD := Lib.hid hd
        have HX := Lib.hid hx
        clear hx hd
        go_wp2_with fail
        go_roundw
        case rel =>
          refine ⟨k + 1, _, by omega, by go_num, rfl, ?_, trivial⟩
          rw [HG.out, lgS_more HX.out HD.out]
        case measure => simp [intOf]; omega
      · have fx : decide (x0 ≤ 3000) = false := decide_eq_false hx
        have HE0 := Lib.hid (HG.out.trans (lgS_done (.inl hx)))
        clear hx HG
        go_wp2_with fail
        go_loopw [5, 3] (fun i nv wr => ∃ (k : Nat) (x : Int), k ≤ S.length ∧ i = .int .i64 k ∧ nv = .int .i64 x ∧ lgS x0 LT = lgS x (LT.drop k) ∧ wr = w.alloc (.cells #[.slice AF L.length cF, .slice AS S.length cS, .slice AM M.length cM] 42)) (fun i _ _ => S.length - (intOf i).toNat)
        case atStart => exact ⟨0, _, by omega, rfl, rfl, rfl, rfl⟩
        case round =>
          obtain ⟨k, x1, hk, rfl, rfl, hg, rfl⟩ := hrel
          have HG := Lib.hid hg
          clear hg
          by_cases hlt : k < S.length
          · have hl : (k : Int) < (S.length : Int) := by omega
            have fl : decide ((k : Int) < (S.length : Int)) = true := decide_eq_true hl
            by_cases hx : x1 ≤ 3000
            · have fx : decide (x1 ≤ 3000) = true := decide_eq_true hx
              obtain ⟨ad, u, rfl, hbl, hu, hcs⟩ := R3.at_ hlt
              obtain rfl : strV S[k] = u := by
                rw [List.getElem?_map, List.getElem?_eq_getElem hlt] at hu
                exact Option.some.inj hu
              clear hu
              have hd : LT.drop k = (if (3000 : Int) < S[k].length then 3000 else (S[k].length : Int)) :: LT.drop (k + 1) := by
                rw [← HLT.out, drop_at (by rw [List.length_map]; exact hlt), List.getElem_map]
              generalize S[k] = y at hcs hd
              have HD := Lib.hid hd
              have HX := Lib.hid hx
              clear hx hd
              go_wp2_with (refine wpList_min rfl (.tmp 55) (.const (.int .i64 3000)) _ rfl _ _ _ _ rfl rfl _ rfl ?_)
              go_roundw
              case rel =>
                refine ⟨k + 1, _, by omega, by go_num, rfl, ?_, trivial⟩
                rw [HG.out, lgS_more HX.out HD.out]
              case measure => simp [intOf]; omega
            · have fx : decide (x1 ≤ 3000) = false := decide_eq_false hx
              have HE1 := Lib.hid (HG.out.trans (lgS_done (.inl hx)))
              clear hx HG
              go_wp2_with fail
              go_loopw [6, 3] (fun i nv wr => ∃ (k : Nat) (x : Int), k ≤ M.length ∧ i = .int .i64 k ∧ nv = .int .i64 x ∧ lgS x1 LM = lgS x (LM.drop k) ∧ wr = w.alloc (.cells #[.slice AF L.length cF, .slice AS S.length cS, .slice AM M.length cM] 42)) (fun i _ _ => M.length - (intOf i).toNat)
              case atStart => exact ⟨0, _, by omega, rfl, rfl, rfl, rfl⟩
              case round =>
                obtain ⟨k, x2, hk, rfl, rfl, hg, rfl⟩ := hrel
                have HG := Lib.hid hg
                clear hg
                by_cases hlt : k < M.length
                · have hl : (k : Int) < (M.length : Int) := by omega
                  have fl : decide ((k : Int) < (M.length : Int)) = true := decide_eq_true hl
                  by_cases hx : x2 ≤ 3000
                  · have fx : decide (x2 ≤ 3000) = true := decide_eq_true hx
                    obtain ⟨ad, rfl, hbl, hcs⟩ := Reads.rowAt (f := Fmv.cells) (m := 4) (fun _ => rfl) R4 (by decide) (List.getElem?_eq_getElem hlt)
                    have hd : LM.drop k = (M[k].fm.cons.length : Int) :: LM.drop (k + 1) := by
                      rw [← HLM.out, drop_at (by rw [List.length_map]; exact hlt), List.getElem_map]
                    have hcell : (w.alloc (.cells #[.slice AF L.length cF, .slice AS S.length cS, .slice (some ad) M.length cM] 42)).cell? ⟨(ad.add (k * 4)).block, (ad.add (k * 4)).off + 3, none⟩ = _ := hcs 3 _ rfl
                    clear hcs
                    generalize M[k] = y at hcell hd
                    have HD := Lib.hid hd
                    have HX := Lib.hid hx
                    clear hx hd
                    go_wp2_with fail
                    go_roundw
                    case rel =>
                      refine ⟨k + 1, _, by omega, by go_num, rfl, ?_, trivial⟩
                      rw [HG.out, lgS_more HX.out HD.out]
                    case measure => simp [intOf]; omega
                  · have fx : decide (x2 ≤ 3000) = false := decide_eq_false hx
                    have HE2 := Lib.hid (HG.out.trans (lgS_done (.inl hx)))
                    clear hx HG
                    go_wp2_with fail
                    go_wp2_with fail
                    go_ret
                    refine ⟨?_, B1.out⟩
                    rw [HE0.out, HE1.out, HE2.out]
                    rfl
                · have hl : ¬ (k : Int) < (M.length : Int) := by omega
                  have fl : decide ((k : Int) < (M.length : Int)) = false := decide_eq_false hl
                  have HE2 := Lib.hid (HG.out.trans (lgS_done (.inr (List.drop_eq_nil_of_le (by rw [← HLM.out, List.length_map]; omega)))))
                  clear HG
                  go_wp2_with fail
                  go_wp2_with fail
                  go_ret
                  refine ⟨?_, B1.out⟩
                  rw [HE0.out, HE1.out, HE2.out]
                  rfl
          · have hl : ¬ (k : Int) < (S.length : Int) := by omega
            have fl : decide ((k : Int) < (S.length : Int)) = false := decide_eq_false hl
            have HE1 := Lib.hid (HG.out.trans (lgS_done (.inr (List.drop_eq_nil_of_le (by rw [← HLT.out, List.length_map]; omega)))))
            clear HG
            go_wp2_with fail
            go_loopw [6, 3] (fun i nv wr => ∃ (k : Nat) (x : Int), k ≤ M.length ∧ i = .int .i64 k ∧ nv = .int .i64 x ∧ lgS x1 LM = lgS x (LM.drop k) ∧ wr = w.alloc (.cells #[.slice AF L.length cF, .slice AS S.length cS, .slice AM M.length cM] 42)) (fun i _ _ => M.length - (intOf i).toNat)
            case atStart => exact ⟨0, _, by omega, rfl, rfl, rfl, rfl⟩
            case round =>
              obtain ⟨k, x2, hk, rfl, rfl, hg, rfl⟩ := hrel
              have HG := Lib.hid hg
              clear hg
              by_cases hlt : k < M.length
              · have hl : (k : Int) < (M.length : Int) := by omega
                have fl : decide ((k : Int) < (M.length : Int)) = true := decide_eq_true hl
                by_cases hx : x2 ≤ 3000
                · have fx : decide (x2 ≤ 3000) = true := decide_eq_true hx
                  obtain ⟨ad, rfl, hbl, hcs⟩ := Reads.rowAt (f := Fmv.cells) (m := 4) (fun _ => rfl) R4 (by decide) (List.getElem?_eq_getElem hlt)
                  have hd : LM.drop k = (M[k].fm.cons.length : Int) :: LM.drop (k + 1) := by
                    rw [← HLM.out, drop_at (by rw [List.length_map]; exact hlt), List.getElem_map]
                  have hcell : (w.alloc (.cells #[.slice AF L.length cF, .slice AS S.length cS, .slice (some ad) M.length cM] 42)).cell? ⟨(ad.add (k * 4)).block, (ad.add (k * 4)).off + 3, none⟩ = _ := hcs 3 _ rfl
                  clear hcs
                  generalize M[k] = y at hcell hd
                  have HD := Lib.hid hd
                  have HX := Lib.hid hx
                  clear hx hd
                  go_wp2_with fail
                  go_roundw
                  case rel =>
                    refine ⟨k + 1, _, by omega, by go_num, rfl, ?_, trivial⟩
                    rw [HG.out, lgS_more HX.out HD.out]
                  case measure => simp [intOf]; omega
                · have fx : decide (x2 ≤ 3000) = false := decide_eq_false hx
                  have HE2 := Lib.hid (HG.out.trans (lgS_done (.inl hx)))
                  clear hx HG
                  go_wp2_with fail
                  go_wp2_with fail
                  go_ret
                  refine ⟨?_, B1.out⟩
                  rw [HE0.out, HE1.out, HE2.out]
                  rfl
              · have hl : ¬ (k : Int) < (M.length : Int) := by omega
                have fl : decide ((k : Int) < (M.length : Int)) = false := decide_eq_false hl
                have HE2 := Lib.hid (HG.out.trans (lgS_done (.inr (List.drop_eq_nil_of_le (by rw [← HLM.out, List.length_map]; omega)))))
                clear HG
                go_wp2_with fail
                go_wp2_with fail
                go_ret
                refine ⟨?_, B1.out⟩
                rw [HE0.out, HE1.out, HE2.out]
                rfl
    · have hl : ¬ (k : Int) < (L.length : Int) := by omega
      have fl : decide ((k : Int) < (L.length : Int)) = false := decide_eq_false hl
      have HE0 := Lib.hid (HG.out.trans (lgS_done (.inr (List.drop_eq_nil_of_le (by rw [← HLF.out, List.length_map]; omega)))))
      clear HG
      go_wp2_with fail
      go_loopw [5, 3] (fun i nv wr => ∃ (k : Nat) (x : Int), k ≤ S.length ∧ i = .int .i64 k ∧ nv = .int .i64 x ∧ lgS x0 LT = lgS x (LT.drop k) ∧ wr = w.alloc (.cells #[.slice AF L.length cF, .slice AS S.length cS, .slice AM M.length cM] 42)) (fun i _ _ => S.length - (intOf i).toNat)
      case atStart => exact ⟨0, _, by omega, rfl, rfl, rfl, rfl⟩
      case round =>
        obtain ⟨k, x1, hk, rfl, rfl, hg, rfl⟩ := hrel
        have HG := Lib.hid hg
        clear hg
        by_cases hlt : k < S.length
        · have hl : (k : Int) < (S.length : Int) := by omega
          have fl : decide ((k : Int) < (S.length : Int)) = true := decide_eq_true hl
          by_cases hx : x1 ≤ 3000
          · have fx : decide (x1 ≤ 3000) = true := decide_eq_true hx
            obtain ⟨ad, u, rfl, hbl, hu, hcs⟩ := R3.at_ hlt
            obtain rfl : strV S[k] = u := by
              rw [List.getElem?_map, List.getElem?_eq_getElem hlt] at hu
              exact Option.some.inj hu
            clear hu
            have hd : LT.drop k = (if (3000 : Int) < S[k].length then 3000 else (S[k].length : Int)) :: LT.drop (k + 1) := by
              rw [← HLT.out, drop_at (by rw [List.length_map]; exact hlt), List.getElem_map]
            generalize S[k] = y at hcs hd
            have HD := Lib.hid hd
            have HX := Lib.hid hx
            clear hx hd
            go_wp2_with (refine wpList_min rfl (.tmp 55) (.const (.int .i64 3000)) _ rfl _ _ _ _ rfl rfl _ rfl ?_)
            go_roundw
            case rel =>
              refine ⟨k + 1, _, by omega, by go_num, rfl, ?_, trivial⟩
              rw [HG.out, lgS_more HX.out HD.out]
            case measure => simp [intOf]; omega
          · have fx : decide (x1 ≤ 3000) = false := decide_eq_false hx
            have HE1 := Lib.hid (HG.out.trans (lgS_done (.inl hx)))
            clear hx HG
            go_wp2_with fail
            go_loopw [6, 3] (fun i nv wr => ∃ (k : Nat) (x : Int), k ≤ M.length ∧ i = .int .i64 k ∧ nv = .int .i64 x ∧ lgS x1 LM = lgS x (LM.drop k) ∧ wr = w.alloc (.cells #[.slice AF L.length cF, .slice AS S.length cS, .slice AM M.length cM] 42)) (fun i _ _ => M.length - (intOf i).toNat)
            case atStart => exact ⟨0, _, by omega, rfl, rfl, rfl, rfl⟩
            case round =>
              obtain ⟨k, x2, hk, rfl, rfl, hg, rfl⟩ := hrel
              have HG := Lib.hid hg
              clear hg
              by_cases hlt : k < M.length
              · have hl : (k : Int) < (M.length : Int) := by omega
                have fl : decide ((k : Int) < (M.length : Int)) = true := decide_eq_true hl
                by_cases hx : x2 ≤ 3000
                · have fx : decide (x2 ≤ 3000) = true := decide_eq_true hx
                  obtain ⟨ad, rfl, hbl, hcs⟩ := Reads.rowAt (f := Fmv.cells) (m := 4) (fun _ => rfl) R4 (by decide) (List.getElem?_eq_getElem hlt)
                  have hd : LM.drop k = (M[k].fm.cons.length : Int) :: LM.drop (k + 1) := by
                    rw [← HLM.out, drop_at (by rw [List.length_map]; exact hlt), List.getElem_map]
                  have hcell : (w.alloc (.cells #[.slice AF L.length cF, .slice AS S.length cS, .slice (some ad) M.length cM] 42)).cell? ⟨(ad.add (k * 4)).block, (ad.add (k * 4)).off + 3, none⟩ = _ := hcs 3 _ rfl
                  clear hcs
                  generalize M[k] = y at hcell hd
                  have HD := Lib.hid hd
                  have HX := Lib.hid hx
                  clear hx hd
                  go_wp2_with fail
                  go_roundw
                  case rel =>
                    refine ⟨k + 1, _, by omega, by go_num, rfl, ?_, trivial⟩
                    rw [HG.out, lgS_more HX.out HD.out]
                  case measure => simp [intOf]; omega
                · have fx : decide (x2 ≤ 3000) = false := decide_eq_false hx
                  have HE2 := Lib.hid (HG.out.trans (lgS_done (.inl hx)))
                  clear hx HG
                  go_wp2_with fail
                  go_wp2_with fail
                  go_ret
                  refine ⟨?_, B1.out⟩
                  rw [HE0.out, HE1.out, HE2.out]
                  rfl
              · have hl : ¬ (k : Int) < (M.length : Int) := by omega
                have fl : decide ((k : Int) < (M.length : Int)) = false := decide_eq_false hl
                have HE2 := Lib.hid (HG.out.trans (lgS_done (.inr (List.drop_eq_nil_of_le (by rw [← HLM.out, List.length_map]; omega)))))
                clear HG
                go_wp2_with fail
                go_wp2_with fail
                go_ret
                refine ⟨?_, B1.out⟩
                rw [HE0.out, HE1.out, HE2.out]
                rfl
        · have hl : ¬ (k : Int) < (S.length : Int) := by omega
          have fl : decide ((k : Int) < (S.length : Int)) = false := decide_eq_false hl
          have HE1 := Lib.hid (HG.out.trans (lgS_done (.inr (List.drop_eq_nil_of_le (by rw [← HLT.out, List.length_map]; omega)))))
          clear HG
          go_wp2_with fail
          go_loopw [6, 3] (fun i nv wr => ∃ (k : Nat) (x : Int), k ≤ M.length ∧ i = .int .i64 k ∧ nv = .int .i64 x ∧ lgS x1 LM = lgS x (LM.drop k) ∧ wr = w.alloc (.cells #[.slice AF L.length cF, .slice AS S.length cS, .slice AM M.length cM] 42)) (fun i _ _ => M.length - (intOf i).toNat)
          case atStart => exact ⟨0, _, by omega, rfl, rfl, rfl, rfl⟩
          case round =>
            obtain ⟨k, x2, hk, rfl, rfl, hg, rfl⟩ := hrel
            have HG := Lib.hid hg
            clear hg
            by_cases hlt : k < M.length
            · have hl : (k : Int) < (M.length : Int) := by omega
              have fl : decide ((k : Int) < (M.length : Int)) = true := decide_eq_true hl
              by_cases hx : x2 ≤ 3000
              · have fx : decide (x2 ≤ 3000) = true := decide_eq_true hx
                obtain ⟨ad, rfl, hbl, hcs⟩ := Reads.rowAt (f := Fmv.cells) (m := 4) (fun _ => rfl) R4 (by decide) (List.getElem?_eq_getElem hlt)
                have hd : LM.drop k = (M[k].fm.cons.length : Int) :: LM.drop (k + 1) := by
                  rw [← HLM.out, drop_at (by rw [List.length_map]; exact hlt), List.getElem_map]
                have hcell : (w.alloc (.cells #[.slice AF L.length cF, .slice AS S.length cS, .slice (some ad) M.length cM] 42)).cell? ⟨(ad.add (k * 4)).block, (ad.add (k * 4)).off + 3, none⟩ = _ := hcs 3 _ rfl
                clear hcs
                generalize M[k] = y at hcell hd
                have HD := Lib.hid hd
                have HX := Lib.hid hx
                clear hx hd
                go_wp2_with fail
                go_roundw
                case rel =>
                  refine ⟨k + 1, _, by omega, by go_num, rfl, ?_, trivial⟩
                  rw [HG.out, lgS_more HX.out HD.out]
                case measure => simp [intOf]; omega
              · have fx : decide (x2 ≤ 3000) = false := decide_eq_false hx
                have HE2 := Lib.hid (HG.out.trans (lgS_done (.inl hx)))
                clear hx HG
                go_wp2_with fail
                go_wp2_with fail
                go_ret
                refine ⟨?_, B1.out⟩
                rw [HE0.out, HE1.out, HE2.out]
                rfl
            · have hl : ¬ (k : Int) < (M.length : Int) := by omega
              have fl : decide ((k : Int) < (M.length : Int)) = false := decide_eq_false hl
              have HE2 := Lib.hid (HG.out.trans (lgS_done (.inr (List.drop_eq_nil_of_le (by rw [← HLM.out, List.length_map]; omega)))))
              clear HG
              go_wp2_with fail
              go_wp2_with fail
              go_ret
              refine ⟨?_, B1.out⟩
              rw [HE0.out, HE1.out, HE2.out]
              rfl
end Go.Proofs.YtiphicejaljhiaaDoor
