/- code.function: whether a function may be. -/
import Derived.Test.YtiphicejaljhiaaDoorPlain
import Derived.Deep.QuietTactic
import Derived.BigQuiet
namespace Go.Proofs.YtiphicejaljhiaaDoor
open Go.ChangeShapes Go.WideShapes Go.ChangeAt Go.RowKit
theorem all_take {α : Type} {l : List α} {p : α → Bool} {k : Nat} (h : k < l.length) (h1 : (l.take k).all p = true) (h2 : p l[k] = true) : (l.take (k + 1)).all p = true := by
  rw [List.take_add_one, List.all_append, h1, List.getElem?_eq_getElem h]
  simp [h2]
theorem all_not {α : Type} {l : List α} {p : α → Bool} {k : Nat} (h : k < l.length) (h2 : p l[k] = false) : l.all p = false := by
  rw [List.all_eq_false]
  exact ⟨_, List.getElem_mem h, by simp [h2]⟩
set_option maxHeartbeats 1000000 in
theorem c63 (f : Fn) (first : Bool) (A : Option Addr) (n c : Nat) (w : World) (ht : OpTab w) (hr : Reads w w.heap.size 3 A n (f.code.flatMap insCells)) (hn : n = f.code.length) (hm : n ≤ maxLen) :
    Calls Tryd.prog 63 #[.agg #[.int .i64 f.locals, .int .i64 f.free, .slice A n c], .bool first] w fun e w' => e = .returned (.bool (gFn f first)) ∧ Below w.heap.size w w' := by
  unfold maxLen at hm
  have HN := Lib.hid hn
  clear hn
  have T1 := ht.next (below_new w (.cells #[.int .i64 f.locals, .int .i64 f.free, .slice A n c] 60))
  have P1 := Blk.new w 60 #[.int .i64 f.locals, .int .i64 f.free, .slice A n c]
  have B1 := Lib.hid (below_new w (.cells #[.int .i64 f.locals, .int .i64 f.free, .slice A n c] 60))
  cases first
  all_goals
    go_enter Tryd.func63, Tryd.ntmps63
    go_wp2_with fail
    go_loopw [13] (fun i wr => ∃ k : Nat, k ≤ n ∧ i = .int .i64 k ∧ (f.code.take k).all insGood = true ∧ Below w.heap.size w wr ∧ OpTab wr ∧ Blk wr w.heap.size 60 #[.int .i64 f.locals, .int .i64 f.free, .slice A n c]) (fun i _ => n - (intOf i).toNat)
    case atStart => exact ⟨0, by omega, rfl, rfl, B1.out, T1, P1⟩
    case round =>
      obtain ⟨k, hk, rfl, hg, hb, hT, hP⟩ := hrel
      have HG := Lib.hid hg
      clear hg
      by_cases hlt : k < n
      · have hl : (k : Int) < (n : Int) := by omega
        have hkl : k < f.code.length := by have := HN.out; omega
        obtain ⟨ad, e, hbl, hcs⟩ := (hr.below hb).insAt (List.getElem?_eq_getElem hkl)
        generalize hin : f.code[k] = i at hcs
        have HIN := Lib.hid hin
        clear hin
        have HCS := Lib.hid hcs
        clear hcs
        subst e
        have HB := Lib.hid hb
        clear hb
        have T2 := hT.next (below_new wr (.cells #[.int .i64 i.o, .int .i64 i.a, .int .i64 i.b] 23))
        have P2 := hP.alloc (.cells #[.int .i64 i.o, .int .i64 i.a, .int .i64 i.b] 23)
        have Q2 := Blk.new wr 23 #[.int .i64 i.o, .int .i64 i.a, .int .i64 i.b]
        cases hig : insGood i
        · have HIG := Lib.hid hig
          clear hig
          go_wp2_with (refine wpList_load_at rfl 23 (.tmp 15) rfl (ad.add (k * 3)) rfl [.int .i64 i.o, .int .i64 i.a, .int .i64 i.b] _ HCS.out Tryd.underlying23 rfl (by kernel_rfl) ?_)
          refine (c21 _ _ _ _ T2).mono ?_
          rintro e w1 ⟨rfl, b1⟩
          have hig : gGood i.o i.a i.b = false := HIG.out
          go_wp2_with fail
          go_ret
          refine ⟨?_, next_ HB.out (next_ (below_new wr _) b1)⟩
          have e0 : f.code.all insGood = false := all_not hkl (by rw [HIN.out]; exact HIG.out)
          simp [gFn, e0]
        · have HIG := Lib.hid hig
          clear hig
          go_wp2_with (refine wpList_load_at rfl 23 (.tmp 15) rfl (ad.add (k * 3)) rfl [.int .i64 i.o, .int .i64 i.a, .int .i64 i.b] _ HCS.out Tryd.underlying23 rfl (by kernel_rfl) ?_)
          refine (c21 _ _ _ _ T2).mono ?_
          rintro e w1 ⟨rfl, b1⟩
          have hig : gGood i.o i.a i.b = true := HIG.out
          have T3 := T2.next b1
          have P3 := P2.next b1
          go_wp2_with fail
          go_roundw
          case rel => exact ⟨k + 1, by omega, by go_num, all_take hkl HG.out (by rw [HIN.out]; exact HIG.out), next_ HB.out (next_ (below_new wr _) b1), T3, P3⟩
          case measure => simp [intOf]; omega
      · have hl : ¬ (k : Int) < (n : Int) := by omega
        have hg : f.code.all insGood = true := by
          have h1 := HG.out
          rw [List.take_of_length_le (by have := HN.out; omega)] at h1
          exact h1
        have c0 := hP.cell 0
        have c1 := hP.cell 1
        have c2 := hP.cell 2
        have HB := Lib.hid hb
        have HA := Lib.hid hg
        clear hb hg
        go_wp2_with fail
        refine (c62 _ _ _ _).mono ?_
        rintro e w1 ⟨rfl, rfl⟩
        generalize hg1 : gBetw f.locals _ 60 = g1
        have G1 := Lib.hid hg1
        clear hg1
        cases g1
        · go_wp2_with fail
          go_ret
          exact ⟨by simp [gFn, G1.out], HB.out⟩
        go_wp2_with fail
        refine (c62 _ _ _ _).mono ?_
        rintro e w1 ⟨rfl, rfl⟩
        generalize hg2 : gBetw f.free 0 _ = g2
        have G2 := Lib.hid hg2
        clear hg2
        cases g2
        · go_wp2_with fail
          go_ret
          exact ⟨by simp [gFn, G1.out, G2.out], HB.out⟩
        go_wp2_with fail
        refine (c62 _ _ _ _).mono ?_
        rintro e w1 ⟨rfl, rfl⟩
        go_wp2_with fail
        go_ret
        exact ⟨by simp [gFn, G1.out, G2.out, HA.out, HN.out], HB.out⟩
end Go.Proofs.YtiphicejaljhiaaDoor
