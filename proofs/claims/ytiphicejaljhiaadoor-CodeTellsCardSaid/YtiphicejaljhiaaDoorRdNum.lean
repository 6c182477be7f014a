/- The reader of numbers. -/
import Derived.Test.YtiphicejaljhiaaDoorRdTake
import Derived.Laws.BitsAllLaws
namespace Go.Proofs.YtiphicejaljhiaaDoor
open Go.ChangeShapes Go.WideShapes Go.ChangeAt Go.RowKit
theorem tkC_len (n : Nat) (s : St) : (tkC n s).1.length = n := by
  unfold tkC
  split
  · simp
  · rename_i h; simp; omega
theorem wrap_u64 (n : Nat) (h : n < 18446744073709551616) : IntKind.u64.wrap (n : Int) = n := by
  unfold IntKind.wrap
  simp [IntKind.bits, IntKind.signed]
  omega
theorem or_byte (n y : Nat) (h : n < 72057594037927936) (hy : y < 256) : bits .or .u64 (IntKind.u64.wrap ((n : Int) * 256)) (IntKind.u64.wrap (y : Int)) = ((n * 256 + y : Nat) : Int) := by
  have e : (n : Int) * 256 = ((n * 256 : Nat) : Int) := by omega
  rw [e, wrap_u64 _ (by omega), wrap_u64 _ (by omega), u64_or_nat _ _ (by omega) (by omega)]
  congr 1
  have := Nat.two_pow_add_eq_or_of_lt (i := 8) (b := y) (by omega) n
  rw [Nat.mul_comm n 256]
  exact this.symm
theorem wrap_sgn (n : Nat) (h : n < 18446744073709551616) : wrap64 (n : Int) = sgn n := by
  unfold wrap64 sgn
  split <;> omega
set_option maxRecDepth 100000 in
set_option maxHeartbeats 2000000 in
theorem c55 (g n : Nat) (s : St) (w : World) (hw : RdAt w g s) (hn : n ≤ 8) :
    Calls Tryd.prog 55 #[.pointer (some ⟨g, 0, none⟩), .int .i64 n] w fun e w' => e = .returned (.int .i64 (nV tkC n s)) ∧ RdAt w' g (nS tkC n s) ∧ w.grownBy w' (some g) := by
  unfold nV nS
  have hlen := tkC_len n s
  have HW := Lib.hid hw
  clear hw
  go_enter Tryd.func55, Tryd.ntmps55
  go_wp2_with fail
  refine (c57 g n s w HW.out (by omega)).mono ?_
  rintro e w2 ⟨A, c, rfl, hc, hr, hrd, hg⟩
  generalize hxs : (tkC n s).1 = xs at hlen hr
  generalize hs2 : (tkC n s).2 = s2 at hrd
  have HXS := Lib.hid hxs
  have HS2 := Lib.hid hs2
  clear hxs hs2
  have HRD := Lib.hid hrd
  have HGR := Lib.hid hg
  have HR := Lib.hid hr
  clear hrd hg hr
  go_wp2_with fail
  go_loopw [12, 5] (fun i v wr => ∃ k : Nat, k ≤ n ∧ i = .int .i64 k ∧ v = .int .u64 (natB (xs.take k) : Nat) ∧ wr = w2) (fun i _ _ => n - (intOf i).toNat)
  case atStart => exact ⟨0, by omega, rfl, rfl, rfl⟩
  case round =>
    obtain ⟨k, hk, rfl, rfl, rfl⟩ := hrel
    by_cases hlt : k < n
    · have hl : (k : Int) < (n : Int) := by omega
      have hkx : k < xs.length := by omega
      obtain ⟨ad, u, rfl, hbl, hu, hcs⟩ := HR.out.at_ hlt
      obtain rfl : byV xs[k] = u := by
        unfold cellsB at hu
        rw [List.getElem?_map, List.getElem?_eq_getElem hkx] at hu
        exact Option.some.inj hu
      clear hu
      have hb := natB_snoc (xs.take k) xs[k]
      have ht : xs.take (k + 1) = xs.take k ++ [xs[k]] := by rw [List.take_add_one, List.getElem?_eq_getElem hkx]; rfl
      rw [← ht] at hb
      have hlt8 := natB_lt (xs.take k)
      generalize xs[k] = y at hcs hb ht
      generalize natB (xs.take k) = nv at hb hlt8
      have HB := Lib.hid hb
      clear hb ht
      have hnv : nv < 72057594037927936 := by
        have h1 : 256 ^ (xs.take k).length ≤ 256 ^ 7 := Nat.pow_le_pow_right (by decide) (by rw [List.length_take]; omega)
        exact Nat.lt_of_lt_of_le hlt8 h1
      have HO := Lib.hid ((or_byte nv y.toNat hnv y.toNat_lt).trans (congrArg Int.ofNat HB.out.symm))
      clear hnv hlt8
      go_wp2_with fail
      go_roundw
      case rel => exact ⟨k + 1, by omega, by go_num, by rw [HO.out]; rfl, trivial⟩
      case measure => simp [intOf]; omega
    · have hl : ¬ (k : Int) < (n : Int) := by omega
      have HX := Lib.hid (show xs.take k = xs from List.take_of_length_le (by omega))
      have HS := Lib.hid (wrap_sgn (natB xs) (by
        have h1 := natB_lt xs
        have h2 : 256 ^ xs.length ≤ 256 ^ 8 := Nat.pow_le_pow_right (by decide) (by omega)
        exact Nat.lt_of_lt_of_le h1 h2))
      go_wp2_with fail
      go_ret
      refine ⟨?_, by rw [HS2.out]; exact HRD.out, HGR.out⟩
      rw [HX.out, HXS.out]
      rw [← HS.out]
      rfl
end Go.Proofs.YtiphicejaljhiaaDoor
