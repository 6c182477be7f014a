/- The document's text of a small number. -/
import Derived.Test.YtcilodgpbdafeaaDoorTText
import Derived.Test.YtcilodgpbdafeaaDoorZE
import Derived.Test.YtcilodgpbdafeaaDoorZF
import Derived.Test.YtcilodgpbdafeaaDoorTSml
import Derived.Test.YtcilodgpbdafeaaDoorTLawO
import Derived.Test.YtcilodgpbdafeaaDoorTLawB
namespace Go.Proofs.YtcilodgpbdafeaaDoor
open Go.ChangeShapes Go.WideShapes Go.ChangeAt Go.RowKit
set_option linter.unusedVariables false
set_option linter.unusedSimpArgs false
set_option maxRecDepth 100000 in
set_option maxHeartbeats 4000000 in
theorem c50 (i : Nat) (h1 : 1 ≤ i) (h2 : i ≤ 9) (w : World) : Calls Tryd.prog 50 #[.int .i64 (i : Int)] w fun e w' => e = .returned (.int .i64 (i : Int)) ∧ w = w' := by
  have hi : i = 1 ∨ i = 2 ∨ i = 3 ∨ i = 4 ∨ i = 5 ∨ i = 6 ∨ i = 7 ∨ i = 8 ∨ i = 9 := by omega
  clear h1 h2
  rcases hi with rfl | rfl | rfl | rfl | rfl | rfl | rfl | rfl | rfl
  all_goals
    go_enter Tryd.func50, Tryd.ntmps50
    go_wp2_with fail
    go_ret
    exact ⟨rfl, rfl⟩
theorem run_dig (w : World) (n : Nat) (b : Int) (hn : n < 10) (hb : b = ((48 + n : Nat) : Int)) : (convert 61 9 (.slice (some ⟨w.heap.size, 0, none⟩) 1 1)).run Tryd.prog (w.alloc (.cells #[.int .u8 b] 5)) = .ok (strV [dig1 n]) (w.alloc (.cells #[.int .u8 b] 5)) := by
  subst hb
  refine run_convert_bytes_back _ 61 9 5 ⟨w.heap.size, 0, none⟩ 1 [dig1 n] Tryd.underlying61 Tryd.underlying5 Tryd.underlying9 (fun j hj => ?_)
  have hj0 : j = 0 := by simp at hj; omega
  subst hj0
  have h := (Blk.new w 5 #[.int .u8 ((48 + n : Nat) : Int)]).cell 0
  have e : ((48 + n : Nat) : Int) = ((dig1 n).toNat : Int) := by
    unfold dig1
    rw [UInt8.toNat_ofNat_of_lt' (by show 48 + n < 256; omega)]
  rw [e] at h ⊢
  exact h
set_option maxRecDepth 100000 in
set_option maxHeartbeats 4000000 in
theorem c51 (i : Nat) (h1 : 1 ≤ i) (h2 : i ≤ 9) (w : World) : Calls Tryd.prog 51 #[.int .u64 (i : Int)] w fun e w' => e = .returned (strV [dig1 i]) ∧ Below w.heap.size w w' := by
  have hi : i = 1 ∨ i = 2 ∨ i = 3 ∨ i = 4 ∨ i = 5 ∨ i = 6 ∨ i = 7 ∨ i = 8 ∨ i = 9 := by omega
  clear h1 h2
  rcases hi with rfl | rfl | rfl | rfl | rfl | rfl | rfl | rfl | rfl
  · have hcv := run_dig w 1 49 (by omega) (by decide)
    go_enter Tryd.func51, Tryd.ntmps51
    go_wp2_with fail
    go_ret
    exact ⟨rfl, below_new w _⟩
  · have hcv := run_dig w 2 50 (by omega) (by decide)
    go_enter Tryd.func51, Tryd.ntmps51
    go_wp2_with fail
    go_ret
    exact ⟨rfl, below_new w _⟩
  · have hcv := run_dig w 3 51 (by omega) (by decide)
    go_enter Tryd.func51, Tryd.ntmps51
    go_wp2_with fail
    go_ret
    exact ⟨rfl, below_new w _⟩
  · have hcv := run_dig w 4 52 (by omega) (by decide)
    go_enter Tryd.func51, Tryd.ntmps51
    go_wp2_with fail
    go_ret
    exact ⟨rfl, below_new w _⟩
  · have hcv := run_dig w 5 53 (by omega) (by decide)
    go_enter Tryd.func51, Tryd.ntmps51
    go_wp2_with fail
    go_ret
    exact ⟨rfl, below_new w _⟩
  · have hcv := run_dig w 6 54 (by omega) (by decide)
    go_enter Tryd.func51, Tryd.ntmps51
    go_wp2_with fail
    go_ret
    exact ⟨rfl, below_new w _⟩
  · have hcv := run_dig w 7 55 (by omega) (by decide)
    go_enter Tryd.func51, Tryd.ntmps51
    go_wp2_with fail
    go_ret
    exact ⟨rfl, below_new w _⟩
  · have hcv := run_dig w 8 56 (by omega) (by decide)
    go_enter Tryd.func51, Tryd.ntmps51
    go_wp2_with fail
    go_ret
    exact ⟨rfl, below_new w _⟩
  · have hcv := run_dig w 9 57 (by omega) (by decide)
    go_enter Tryd.func51, Tryd.ntmps51
    go_wp2_with fail
    go_ret
    exact ⟨rfl, below_new w _⟩
set_option maxRecDepth 100000 in
set_option maxHeartbeats 4000000 in
theorem c37 (i : Nat) (h1 : 1 ≤ i) (h2 : i ≤ 9) (w : World) : Calls Tryd.prog 37 #[.int .i64 (i : Int)] w fun e w' => e = .returned (strV [dig1 i]) ∧ Below w.heap.size w w' := by
  have hi0 : ¬ ((i : Int) < 0) := by omega
  have hi1 : (0 : Int) ≤ (i : Int) := by omega
  have hi2 : (i : Int) < 100 := by omega
  have H1 := Lib.hid h1
  have H2 := Lib.hid h2
  clear h1 h2
  go_enter Tryd.func37, Tryd.ntmps37
  go_wp2_with fail
  refine (c50 i H1.out H2.out w).mono ?_
  rintro e _ ⟨rfl, rfl⟩
  go_wp2_with fail
  refine (c51 i H1.out H2.out w).mono ?_
  rintro e w' ⟨rfl, hb⟩
  have HB := Lib.hid hb
  clear hb
  go_wp2_with fail
  go_ret
  exact ⟨rfl, HB.out⟩
end Go.Proofs.YtcilodgpbdafeaaDoor
namespace Go.Proofs.YtcilodgpbdafeaaDoor
open Go.ChangeShapes Go.WideShapes Go.ChangeAt Go.RowKit
set_option linter.unusedVariables false
set_option linter.unusedSimpArgs false
/-- The texts of the first k parts are told. -/
structure TxR (W w : World) (m : List Part) (k : Nat) (v4 vn : Value) (xs : List (List UInt8)) : Prop where
  below : Below W.heap.size W w
  own : w.ownsRow W.heap.size 9 1 v4 k (xs.map strV)
  len : xs.length = k
  told : ∀ i U, i < k → U.wf → At m U i → xs[i]? = some (tx U)
  part : w.ownsRow W.heap.size 29 5 vn m.length (m.flatMap partC)
section
variable {W w w' : World} {m : List Part} {k : Nat} {v4 v4' vn : Value} {xs : List (List UInt8)}
theorem TxR.next (h : TxR W w m k v4 vn xs) (hb : Below w.heap.size w w') : TxR W w' m k v4 vn xs :=
  ⟨h.below.trans (hb.mono h.below.size), own_next h.own hb, h.len, h.told, own_next h.part hb⟩
theorem TxR.push (h : TxR W w m k v4 vn xs) {s : List UInt8} (hs : ∀ U, U.wf → At m U k → s = tx U) {o : Obj} (oA : w'.ownsRow W.heap.size 9 1 v4' (k + 1) (xs.map strV ++ [strV s])) (gA : (w.alloc o).grownBy w' v4.ownBlock) : TxR W w' m (k + 1) v4' vn (xs ++ [s]) := by
  have h1 := h.next (below_new w o)
  refine ⟨h1.below.grown gA h1.below.size (own_base h1.own), ?_, by rw [List.length_append, h.len]; rfl, fun i U hi wU hU => ?_, h1.part.kept gA (own_own_ne h1.part h1.own (by decide))⟩
  · rw [List.map_append]
    exact oA
  · by_cases hik : i = k
    · subst hik
      rw [List.getElem?_append_right (by rw [h.len]; exact Nat.le_refl _), h.len, Nat.sub_self, hs U wU hU]
      rfl
    · rw [List.getElem?_append_left (by rw [h.len]; omega)]
      exact h.told i U (by omega) wU hU
theorem TxR.at_ {A : Option Addr} {c : Nat} (h : TxR W w m k (.slice A k c) vn xs) {j : Nat} (hj : j < k) {s : List UInt8} (hs : xs[j]? = some s) : ∃ ad, A = some ad ∧ w.cell? (ad.add j) = some (strV s) := by
  obtain ⟨ad, u, e, _, hu, hc⟩ := Reads.at_ (Reads.of_own h.own) hj
  rw [List.getElem?_map, hs] at hu
  obtain rfl := Option.some.inj hu
  exact ⟨ad, e, hc⟩
end
theorem reads_str (w : World) (s : List UInt8) : Reads (w.alloc (.cells #[strV s] 9)) (w.heap.size + 1) 1 (some ⟨w.heap.size, 0, none⟩) 1 [strV s] := reads_blkN (Blk.new w 9 _) rfl
set_option maxRecDepth 100000 in
set_option maxHeartbeats 16000000 in
theorem c24 (l : List Part) (A : Option Addr) (c : Nat) (W : World) (hg : gTy l = true) (ha : RT W A l) (ht : ∀ p ∈ l, p.t.length ≤ 3000) : Calls Tryd.prog 24 #[.slice A l.length c] W fun e W' => ∃ s, e = .returned (strV s) ∧ Below W.heap.size W W' ∧ ∀ T : Ty, T.wf → norm l = enc 0 T → s = tx T := by
  have HC := Lib.hid (c23 l A c W hg ha)
  have HT0 := Lib.hid ht
  have HG := Lib.hid hg
  obtain ⟨T0, wT0, eT0, zT0⟩ := (gTy_iff l).1 hg
  have hlen : l.length ≤ 200 := by rw [eT0, enc_len]; exact zT0
  have hpos : 0 < l.length := by rw [eT0, enc_len]; exact T0.size_pos
  have HTm := Lib.hid (norm_tame hlen HT0.out)
  have HGd := Lib.hid (good_at (norm_good hg))
  have HNl := Lib.hid (norm_len l)
  obtain ⟨i9, fi9, hz0, hz1, hz2⟩ := info_parts str_info
  have H9 := Lib.hid (show i9.zero = some (.string ⟨#[]⟩) ∧ i9.size = 1 ∧ i9.bytes = 16 from ⟨hz0, hz1, hz2⟩)
  clear hg wT0 eT0 zT0 ht ha hz0 hz1 hz2
  go_enter Tryd.func24, Tryd.ntmps24
  go_wp2_with fail
  refine HC.out.mono ?_
  rintro e w1 ⟨v, rfl, hon, hb1⟩
  generalize hmn : norm l = m at HTm HGd HNl hon
  have HM := Lib.hid hmn
  have hml : m.length = l.length := HNl.out
  rw [← hml] at hlen hpos
  obtain ⟨An, cn, rfl⟩ := own_form hon
  have HR0 := Lib.hid (show TxR W w1 m 0 (.slice none 0 0) (.slice An m.length cn) [] from ⟨hb1, World.ownsRow_nil _ _ _ _, rfl, fun i U hi => absurd hi (Nat.not_lt_zero _), hon⟩)
  clear hon hmn hml hb1
  go_wp2_with fail
  go_loopw [4, 5] (fun v i wr => ∃ (k : Nat) (xs : List (List UInt8)), k ≤ m.length ∧ i = .int .i64 k ∧ TxR W wr m k v (.slice An m.length cn) xs) (fun _ i _ => m.length - (intOf i).toNat)
  case atStart => exact ⟨0, _, by omega, rfl, HR0.out⟩
  case round =>
    obtain ⟨k, xs, hk, rfl, htx⟩ := hrel
    have HW0 := Lib.hid htx
    obtain ⟨A4, c4, rfl⟩ := own_form htx.own
    clear htx
    by_cases hlt : k < m.length
    · have hlk : (k : Int) < (m.length : Int) := by omega
      have hk0 : (0 : Int) ≤ (k : Int) := by omega
      obtain ⟨ad, rfl, _, hcs⟩ := (Reads.of_own HW0.out.part).partAt (List.getElem?_eq_getElem hlt)
      have hpk : m[k]? = some m[k] := List.getElem?_eq_getElem hlt
      generalize m[k] = p at hcs hpk
      have HCS := Lib.hid hcs
      have HPK := Lib.hid hpk
      obtain ⟨U, hU, hAt⟩ := HGd.out k hlt
      have HU := Lib.hid hU
      have HAt := Lib.hid hAt
      have HLK := Lib.hid (show k < m.length ∧ m.length ≤ 200 from ⟨hlt, hlen⟩)
      have hws : W.heap.size ≤ wr.heap.size := HW0.out.below.size
      have HWS := Lib.hid hws
      clear hcs hpk hU hAt hws
      cases U with
      | leaf pk pt =>
        obtain rfl : p = ⟨pk, 0, 0, 0, pt⟩ := (Option.some.inj (HPK.out.symm.trans HAt.out))
        have hpk := HU.out
        simp only [Ty.wf] at hpk
        rcases hpk with ⟨hp1, hp5, rfl⟩ | ⟨rfl, hpt⟩
        · have hp15 : pk = 1 ∨ pk = 2 ∨ pk = 3 ∨ pk = 4 ∨ pk = 5 := by omega
          clear hp1 hp5
          rcases hp15 with rfl | rfl | rfl | rfl | rfl
          · go_upto_region 7 with (first | (refine wpList_load_at rfl 29 (.tmp 18) rfl (ad.add (k * 5)) rfl [.int .i64 1, .int .i64 0, .int .i64 0, .int .i64 0, strV []] _ HCS.out Tryd.underlying29 rfl (by kernel_rfl) ?_))
            have HW1 := Lib.hid (HW0.out.next (below_new wr (.cells #[.int .i64 1, .int .i64 0, .int .i64 0, .int .i64 0, strV []] 29)))
            have x0 : (wr.alloc (.cells #[.int .i64 1, .int .i64 0, .int .i64 0, .int .i64 0, strV []] 29)).cell? ⟨wr.heap.size, 0, none⟩ = some (.int .i64 1) := (Blk.new wr 29 _).cell 0
            generalize wr.alloc (.cells #[.int .i64 1, .int .i64 0, .int .i64 0, .int .i64 0, strV []] 29) = w5 at HW1 x0 ⊢
            generalize wr.heap.size = pb at x0 ⊢
            go_upto_region 33 with fail
            go_wp2_with (at_builtin; refine wpList_append_any _ rfl (.tmp 105) (.tmp 107) 43 rfl W.heap.size 9 i9 _ 1 16 Tryd.underlying43 fi9 H9.out.1 H9.out.2.1 H9.out.2.2 rfl (by omega) (.slice A4 k c4) k (xs.map strV) rfl (own_next HW1.out.own (below_new _ _)) ((w5).heap.size + 1) (some ⟨(w5).heap.size, 0, none⟩) 1 1 [strV ([105, 110, 116])] rfl (reads_str (w5) ([105, 110, 116])) (by simp [strV, Value.oneCell']) (by unfold maxLen; omega) (by omega) (by rw [World.size_alloc]; have := HW1.out.below.size; omega) ?_; intro v9 w9 oA gA _; have HO9 := Lib.hid oA; have HG9 := Lib.hid gA; clear oA gA)
            go_roundw
            case rel =>
              refine ⟨k + 1, _, HLK.out.1, by first | exact wrap_succ HLK.out.1 HLK.out.2 | (have := HLK.out; go_num), HW1.out.push (s := [105, 110, 116]) ?_ HO9.out HG9.out⟩
              intro U' wU' hU'
              rw [at_fun m U' _ (k) wU' HU.out hU' HAt.out]
              rfl
            case measure => first | exact meas_succ HLK.out.1 HLK.out.2 | (have := HLK.out; simp [intOf]; omega)

          · go_upto_region 7 with (first | (refine wpList_load_at rfl 29 (.tmp 18) rfl (ad.add (k * 5)) rfl [.int .i64 2, .int .i64 0, .int .i64 0, .int .i64 0, strV []] _ HCS.out Tryd.underlying29 rfl (by kernel_rfl) ?_))
            have HW1 := Lib.hid (HW0.out.next (below_new wr (.cells #[.int .i64 2, .int .i64 0, .int .i64 0, .int .i64 0, strV []] 29)))
            have x0 : (wr.alloc (.cells #[.int .i64 2, .int .i64 0, .int .i64 0, .int .i64 0, strV []] 29)).cell? ⟨wr.heap.size, 0, none⟩ = some (.int .i64 2) := (Blk.new wr 29 _).cell 0
            generalize wr.alloc (.cells #[.int .i64 2, .int .i64 0, .int .i64 0, .int .i64 0, strV []] 29) = w5 at HW1 x0 ⊢
            generalize wr.heap.size = pb at x0 ⊢
            go_upto_region 33 with fail
            go_wp2_with (at_builtin; refine wpList_append_any _ rfl (.tmp 105) (.tmp 107) 43 rfl W.heap.size 9 i9 _ 1 16 Tryd.underlying43 fi9 H9.out.1 H9.out.2.1 H9.out.2.2 rfl (by omega) (.slice A4 k c4) k (xs.map strV) rfl (own_next HW1.out.own (below_new _ _)) ((w5).heap.size + 1) (some ⟨(w5).heap.size, 0, none⟩) 1 1 [strV ([98, 111, 111, 108])] rfl (reads_str (w5) ([98, 111, 111, 108])) (by simp [strV, Value.oneCell']) (by unfold maxLen; omega) (by omega) (by rw [World.size_alloc]; have := HW1.out.below.size; omega) ?_; intro v9 w9 oA gA _; have HO9 := Lib.hid oA; have HG9 := Lib.hid gA; clear oA gA)
            go_roundw
            case rel =>
              refine ⟨k + 1, _, HLK.out.1, by first | exact wrap_succ HLK.out.1 HLK.out.2 | (have := HLK.out; go_num), HW1.out.push (s := [98, 111, 111, 108]) ?_ HO9.out HG9.out⟩
              intro U' wU' hU'
              rw [at_fun m U' _ (k) wU' HU.out hU' HAt.out]
              rfl
            case measure => first | exact meas_succ HLK.out.1 HLK.out.2 | (have := HLK.out; simp [intOf]; omega)

          · go_upto_region 7 with (first | (refine wpList_load_at rfl 29 (.tmp 18) rfl (ad.add (k * 5)) rfl [.int .i64 3, .int .i64 0, .int .i64 0, .int .i64 0, strV []] _ HCS.out Tryd.underlying29 rfl (by kernel_rfl) ?_))
            have HW1 := Lib.hid (HW0.out.next (below_new wr (.cells #[.int .i64 3, .int .i64 0, .int .i64 0, .int .i64 0, strV []] 29)))
            have x0 : (wr.alloc (.cells #[.int .i64 3, .int .i64 0, .int .i64 0, .int .i64 0, strV []] 29)).cell? ⟨wr.heap.size, 0, none⟩ = some (.int .i64 3) := (Blk.new wr 29 _).cell 0
            generalize wr.alloc (.cells #[.int .i64 3, .int .i64 0, .int .i64 0, .int .i64 0, strV []] 29) = w5 at HW1 x0 ⊢
            generalize wr.heap.size = pb at x0 ⊢
            go_upto_region 33 with fail
            go_wp2_with (at_builtin; refine wpList_append_any _ rfl (.tmp 105) (.tmp 107) 43 rfl W.heap.size 9 i9 _ 1 16 Tryd.underlying43 fi9 H9.out.1 H9.out.2.1 H9.out.2.2 rfl (by omega) (.slice A4 k c4) k (xs.map strV) rfl (own_next HW1.out.own (below_new _ _)) ((w5).heap.size + 1) (some ⟨(w5).heap.size, 0, none⟩) 1 1 [strV ([117, 110, 105, 116])] rfl (reads_str (w5) ([117, 110, 105, 116])) (by simp [strV, Value.oneCell']) (by unfold maxLen; omega) (by omega) (by rw [World.size_alloc]; have := HW1.out.below.size; omega) ?_; intro v9 w9 oA gA _; have HO9 := Lib.hid oA; have HG9 := Lib.hid gA; clear oA gA)
            go_roundw
            case rel =>
              refine ⟨k + 1, _, HLK.out.1, by first | exact wrap_succ HLK.out.1 HLK.out.2 | (have := HLK.out; go_num), HW1.out.push (s := [117, 110, 105, 116]) ?_ HO9.out HG9.out⟩
              intro U' wU' hU'
              rw [at_fun m U' _ (k) wU' HU.out hU' HAt.out]
              rfl
            case measure => first | exact meas_succ HLK.out.1 HLK.out.2 | (have := HLK.out; simp [intOf]; omega)

          · go_upto_region 7 with (first | (refine wpList_load_at rfl 29 (.tmp 18) rfl (ad.add (k * 5)) rfl [.int .i64 4, .int .i64 0, .int .i64 0, .int .i64 0, strV []] _ HCS.out Tryd.underlying29 rfl (by kernel_rfl) ?_))
            have HW1 := Lib.hid (HW0.out.next (below_new wr (.cells #[.int .i64 4, .int .i64 0, .int .i64 0, .int .i64 0, strV []] 29)))
            have x0 : (wr.alloc (.cells #[.int .i64 4, .int .i64 0, .int .i64 0, .int .i64 0, strV []] 29)).cell? ⟨wr.heap.size, 0, none⟩ = some (.int .i64 4) := (Blk.new wr 29 _).cell 0
            generalize wr.alloc (.cells #[.int .i64 4, .int .i64 0, .int .i64 0, .int .i64 0, strV []] 29) = w5 at HW1 x0 ⊢
            generalize wr.heap.size = pb at x0 ⊢
            go_upto_region 33 with fail
            go_wp2_with (at_builtin; refine wpList_append_any _ rfl (.tmp 105) (.tmp 107) 43 rfl W.heap.size 9 i9 _ 1 16 Tryd.underlying43 fi9 H9.out.1 H9.out.2.1 H9.out.2.2 rfl (by omega) (.slice A4 k c4) k (xs.map strV) rfl (own_next HW1.out.own (below_new _ _)) ((w5).heap.size + 1) (some ⟨(w5).heap.size, 0, none⟩) 1 1 [strV ([115, 116, 114, 105, 110, 103])] rfl (reads_str (w5) ([115, 116, 114, 105, 110, 103])) (by simp [strV, Value.oneCell']) (by unfold maxLen; omega) (by omega) (by rw [World.size_alloc]; have := HW1.out.below.size; omega) ?_; intro v9 w9 oA gA _; have HO9 := Lib.hid oA; have HG9 := Lib.hid gA; clear oA gA)
            go_roundw
            case rel =>
              refine ⟨k + 1, _, HLK.out.1, by first | exact wrap_succ HLK.out.1 HLK.out.2 | (have := HLK.out; go_num), HW1.out.push (s := [115, 116, 114, 105, 110, 103]) ?_ HO9.out HG9.out⟩
              intro U' wU' hU'
              rw [at_fun m U' _ (k) wU' HU.out hU' HAt.out]
              rfl
            case measure => first | exact meas_succ HLK.out.1 HLK.out.2 | (have := HLK.out; simp [intOf]; omega)

          · go_upto_region 7 with (first | (refine wpList_load_at rfl 29 (.tmp 18) rfl (ad.add (k * 5)) rfl [.int .i64 5, .int .i64 0, .int .i64 0, .int .i64 0, strV []] _ HCS.out Tryd.underlying29 rfl (by kernel_rfl) ?_))
            have HW1 := Lib.hid (HW0.out.next (below_new wr (.cells #[.int .i64 5, .int .i64 0, .int .i64 0, .int .i64 0, strV []] 29)))
            have x0 : (wr.alloc (.cells #[.int .i64 5, .int .i64 0, .int .i64 0, .int .i64 0, strV []] 29)).cell? ⟨wr.heap.size, 0, none⟩ = some (.int .i64 5) := (Blk.new wr 29 _).cell 0
            generalize wr.alloc (.cells #[.int .i64 5, .int .i64 0, .int .i64 0, .int .i64 0, strV []] 29) = w5 at HW1 x0 ⊢
            generalize wr.heap.size = pb at x0 ⊢
            go_upto_region 33 with fail
            go_wp2_with (at_builtin; refine wpList_append_any _ rfl (.tmp 105) (.tmp 107) 43 rfl W.heap.size 9 i9 _ 1 16 Tryd.underlying43 fi9 H9.out.1 H9.out.2.1 H9.out.2.2 rfl (by omega) (.slice A4 k c4) k (xs.map strV) rfl (own_next HW1.out.own (below_new _ _)) ((w5).heap.size + 1) (some ⟨(w5).heap.size, 0, none⟩) 1 1 [strV ([97, 114, 114, 97, 121])] rfl (reads_str (w5) ([97, 114, 114, 97, 121])) (by simp [strV, Value.oneCell']) (by unfold maxLen; omega) (by omega) (by rw [World.size_alloc]; have := HW1.out.below.size; omega) ?_; intro v9 w9 oA gA _; have HO9 := Lib.hid oA; have HG9 := Lib.hid gA; clear oA gA)
            go_roundw
            case rel =>
              refine ⟨k + 1, _, HLK.out.1, by first | exact wrap_succ HLK.out.1 HLK.out.2 | (have := HLK.out; go_num), HW1.out.push (s := [97, 114, 114, 97, 121]) ?_ HO9.out HG9.out⟩
              intro U' wU' hU'
              rw [at_fun m U' _ (k) wU' HU.out hU' HAt.out]
              rfl
            case measure => first | exact meas_succ HLK.out.1 HLK.out.2 | (have := HLK.out; simp [intOf]; omega)

        · clear hpt
          go_upto_region 7 with (first | (refine wpList_load_at rfl 29 (.tmp 18) rfl (ad.add (k * 5)) rfl [.int .i64 10, .int .i64 0, .int .i64 0, .int .i64 0, strV pt] _ HCS.out Tryd.underlying29 rfl (by kernel_rfl) ?_))
          have HW1 := Lib.hid (HW0.out.next (below_new wr (.cells #[.int .i64 10, .int .i64 0, .int .i64 0, .int .i64 0, strV pt] 29)))
          have HB1 := Lib.hid (Blk.new wr 29 #[.int .i64 10, .int .i64 0, .int .i64 0, .int .i64 0, strV pt])
          generalize wr.alloc (.cells #[.int .i64 10, .int .i64 0, .int .i64 0, .int .i64 0, strV pt] 29) = w5 at HW1 HB1 ⊢
          generalize wr.heap.size = pb at HB1 ⊢
          have x0 : w5.cell? ⟨pb, 0, none⟩ = some (.int .i64 10) := HB1.out.cell 0
          have x4 : w5.cell? ⟨pb, 4, none⟩ = some (strV pt) := HB1.out.cell 4
          go_upto_region 33 with fail
          go_wp2_with (at_builtin; refine wpList_append_any _ rfl (.tmp 105) (.tmp 107) 43 rfl W.heap.size 9 i9 _ 1 16 Tryd.underlying43 fi9 H9.out.1 H9.out.2.1 H9.out.2.2 rfl (by omega) (.slice A4 k c4) k (xs.map strV) rfl (own_next HW1.out.own (below_new _ _)) ((w5).heap.size + 1) (some ⟨(w5).heap.size, 0, none⟩) 1 1 [strV (pt)] rfl (reads_str (w5) (pt)) (by simp [strV, Value.oneCell']) (by unfold maxLen; omega) (by omega) (by rw [World.size_alloc]; have := HW1.out.below.size; omega) ?_; intro v9 w9 oA gA _; have HO9 := Lib.hid oA; have HG9 := Lib.hid gA; clear oA gA)
          go_roundw
          case rel =>
            refine ⟨k + 1, _, HLK.out.1, by first | exact wrap_succ HLK.out.1 HLK.out.2 | (have := HLK.out; go_num), HW1.out.push (s := pt) ?_ HO9.out HG9.out⟩
            intro U' wU' hU'
            rw [at_fun m U' _ (k) wU' HU.out hU' HAt.out]
            rfl
          case measure => first | exact meas_succ HLK.out.1 HLK.out.2 | (have := HLK.out; simp [intOf]; omega)

      | var pn =>
        obtain rfl : p = ⟨11, 0, 0, pn, []⟩ := (Option.some.inj (HPK.out.symm.trans HAt.out))
        have hpn := (HTm.out _ (List.mem_of_getElem? HPK.out)).2 rfl
        obtain ⟨q, hq, hq2⟩ : ∃ q : Nat, pn = q ∧ q < 200 := ⟨pn.toNat, by simp only at hpn; omega, by simp only at hpn; omega⟩
        subst hq
        clear hpn
        by_cases h26 : 26 ≤ q
        · have hg : (26 : Int) ≤ (q : Int) := by omega
          obtain ⟨qq, hq⟩ : ∃ qq, qq = q / 26 := ⟨_, rfl⟩
          have hqn : (q : Int) / 26 = (qq : Int) := by omega
          have h1 : 1 ≤ qq := by omega
          have h2 : qq ≤ 9 := by omega
          have HV := Lib.hid (show vtx (q : Int) = [39, UInt8.ofNat (97 + q % 26)] ++ [dig1 qq] by
            unfold vtx
            rw [if_pos hg, show ((q : Int).toNat) = q by omega, ← hq, digs_one qq h1 h2])
          clear hq h26
          go_upto_region 7 with (first | (refine wpList_load_at rfl 29 (.tmp 18) rfl (ad.add (k * 5)) rfl [.int .i64 11, .int .i64 0, .int .i64 0, .int .i64 (q : Int), strV []] _ HCS.out Tryd.underlying29 rfl (by kernel_rfl) ?_))
          have HW1 := Lib.hid (HW0.out.next (below_new wr (.cells #[.int .i64 11, .int .i64 0, .int .i64 0, .int .i64 (q : Int), strV []] 29)))
          have HB1 := Lib.hid (Blk.new wr 29 #[.int .i64 11, .int .i64 0, .int .i64 0, .int .i64 (q : Int), strV []])
          generalize wr.alloc (.cells #[.int .i64 11, .int .i64 0, .int .i64 0, .int .i64 (q : Int), strV []] 29) = w5 at HW1 HB1 ⊢
          generalize wr.heap.size = pb at HB1 ⊢
          have x0 : w5.cell? ⟨pb, 0, none⟩ = some (.int .i64 11) := HB1.out.cell 0
          have x3 : w5.cell? ⟨pb, 3, none⟩ = some (.int .i64 (q : Int)) := HB1.out.cell 3
          have hq0 : (0 : Int) ≤ (q : Int) := by omega
          have hcv := run_byte w5 q
          generalize hbb : UInt8.ofNat (97 + q % 26) = bb at hcv HV
          have HBB := Lib.hid hbb
          clear hbb
          have HW2 := Lib.hid (HW1.out.next (below_new w5 (.cells #[.int .u8 (97 + (q : Int) % 26)] 5)))
          have HB2 := Lib.hid (HB1.out.next (below_new w5 (.cells #[.int .u8 (97 + (q : Int) % 26)] 5)))
          go_upto_region 31 with fail
          clear x0 x3 hcv
          generalize w5.alloc (.cells #[.int .u8 (97 + (q : Int) % 26)] 5) = w6 at HW2 HB2 ⊢
          have x3 : w6.cell? ⟨pb, 3, none⟩ = some (.int .i64 (q : Int)) := HB2.out.cell 3
          rw [show ((⟨#[39]⟩ : ByteArray) ++ ⟨#[bb]⟩) = ⟨([39, bb] : List UInt8).toArray⟩ from by rw [show ([39, bb] : List UInt8) = [39] ++ [bb] from rfl, ← cat_bytes]]
          go_wp2_with fail
          refine (c37 qq h1 h2 _).mono ?_
          rintro e w7 ⟨rfl, hb7⟩
          have HW7 := Lib.hid (HW2.out.next hb7)
          clear hb7
          go_upto_region 33 with fail
          rw [show ((⟨([39, bb] : List UInt8).toArray⟩ : ByteArray) ++ ⟨([dig1 qq] : List UInt8).toArray⟩) = ⟨([39, bb] ++ [dig1 qq] : List UInt8).toArray⟩ from cat_bytes _ _]
          go_wp2_with (at_builtin; refine wpList_append_any _ rfl (.tmp 105) (.tmp 107) 43 rfl W.heap.size 9 i9 _ 1 16 Tryd.underlying43 fi9 H9.out.1 H9.out.2.1 H9.out.2.2 rfl (by omega) (.slice A4 k c4) k (xs.map strV) rfl (own_next HW7.out.own (below_new _ _)) ((w7).heap.size + 1) (some ⟨(w7).heap.size, 0, none⟩) 1 1 [strV ([39, bb] ++ [dig1 qq])] rfl (reads_str (w7) ([39, bb] ++ [dig1 qq])) (by simp [strV, Value.oneCell']) (by unfold maxLen; omega) (by omega) (by rw [World.size_alloc]; have := HW7.out.below.size; omega) ?_; intro v9 w9 oA gA _; have HO9 := Lib.hid oA; have HG9 := Lib.hid gA; clear oA gA)
          go_roundw
          case rel =>
            refine ⟨k + 1, _, HLK.out.1, by first | exact wrap_succ HLK.out.1 HLK.out.2 | (have := HLK.out; go_num), HW7.out.push (s := [39, bb] ++ [dig1 qq]) ?_ HO9.out HG9.out⟩
            intro U' wU' hU'
            rw [at_fun m U' _ (k) wU' HU.out hU' HAt.out]
            exact HV.out.symm
          case measure => first | exact meas_succ HLK.out.1 HLK.out.2 | (have := HLK.out; simp [intOf]; omega)
        · have hg : ¬ ((26 : Int) ≤ (q : Int)) := by omega
          have HV := Lib.hid (show vtx (q : Int) = [39, UInt8.ofNat (97 + q % 26)] by
            unfold vtx
            rw [if_neg hg, show ((q : Int).toNat) = q by omega, List.append_nil])
          clear h26
          go_upto_region 7 with (first | (refine wpList_load_at rfl 29 (.tmp 18) rfl (ad.add (k * 5)) rfl [.int .i64 11, .int .i64 0, .int .i64 0, .int .i64 (q : Int), strV []] _ HCS.out Tryd.underlying29 rfl (by kernel_rfl) ?_))
          have HW1 := Lib.hid (HW0.out.next (below_new wr (.cells #[.int .i64 11, .int .i64 0, .int .i64 0, .int .i64 (q : Int), strV []] 29)))
          have HB1 := Lib.hid (Blk.new wr 29 #[.int .i64 11, .int .i64 0, .int .i64 0, .int .i64 (q : Int), strV []])
          generalize wr.alloc (.cells #[.int .i64 11, .int .i64 0, .int .i64 0, .int .i64 (q : Int), strV []] 29) = w5 at HW1 HB1 ⊢
          generalize wr.heap.size = pb at HB1 ⊢
          have x0 : w5.cell? ⟨pb, 0, none⟩ = some (.int .i64 11) := HB1.out.cell 0
          have x3 : w5.cell? ⟨pb, 3, none⟩ = some (.int .i64 (q : Int)) := HB1.out.cell 3
          have hq0 : (0 : Int) ≤ (q : Int) := by omega
          have hcv := run_byte w5 q
          generalize hbb : UInt8.ofNat (97 + q % 26) = bb at hcv HV
          have HBB := Lib.hid hbb
          clear hbb
          have HW2 := Lib.hid (HW1.out.next (below_new w5 (.cells #[.int .u8 (97 + (q : Int) % 26)] 5)))
          have HB2 := Lib.hid (HB1.out.next (below_new w5 (.cells #[.int .u8 (97 + (q : Int) % 26)] 5)))
          go_upto_region 31 with fail
          clear x0 x3 hcv
          generalize w5.alloc (.cells #[.int .u8 (97 + (q : Int) % 26)] 5) = w6 at HW2 HB2 ⊢
          have x3 : w6.cell? ⟨pb, 3, none⟩ = some (.int .i64 (q : Int)) := HB2.out.cell 3
          rw [show ((⟨#[39]⟩ : ByteArray) ++ ⟨#[bb]⟩) = ⟨([39, bb] : List UInt8).toArray⟩ from by rw [show ([39, bb] : List UInt8) = [39] ++ [bb] from rfl, ← cat_bytes]]
          go_upto_region 33 with fail
          go_wp2_with (at_builtin; refine wpList_append_any _ rfl (.tmp 105) (.tmp 107) 43 rfl W.heap.size 9 i9 _ 1 16 Tryd.underlying43 fi9 H9.out.1 H9.out.2.1 H9.out.2.2 rfl (by omega) (.slice A4 k c4) k (xs.map strV) rfl (own_next HW2.out.own (below_new _ _)) ((w6).heap.size + 1) (some ⟨(w6).heap.size, 0, none⟩) 1 1 [strV ([39, bb])] rfl (reads_str (w6) ([39, bb])) (by simp [strV, Value.oneCell']) (by unfold maxLen; omega) (by omega) (by rw [World.size_alloc]; have := HW2.out.below.size; omega) ?_; intro v9 w9 oA gA _; have HO9 := Lib.hid oA; have HG9 := Lib.hid gA; clear oA gA)
          go_roundw
          case rel =>
            refine ⟨k + 1, _, HLK.out.1, by first | exact wrap_succ HLK.out.1 HLK.out.2 | (have := HLK.out; go_num), HW2.out.push (s := [39, bb]) ?_ HO9.out HG9.out⟩
            intro U' wU' hU'
            rw [at_fun m U' _ (k) wU' HU.out hU' HAt.out]
            exact HV.out.symm
          case measure => first | exact meas_succ HLK.out.1 HLK.out.2 | (have := HLK.out; simp [intOf]; omega)
      | one pk s' =>
        obtain ⟨j, rfl, hlj, hAs⟩ := HAt.out
        obtain rfl : p = ⟨pk, (j : Int), 0, 0, []⟩ := (Option.some.inj (HPK.out.symm.trans hlj))
        have hs1 := HW0.out.told j s' (Nat.lt_succ_self _) HU.out.2 hAs
        have hsl := tx_len HTm.out s' j hAs
        have hsz := hAs.size
        generalize hts : tx s' = ts at hs1 hsl
        have HTS := Lib.hid hts
        have HS := Lib.hid hs1
        have htl : ts.length ≤ 700000 := by omega
        have hss := strV_size ts
        have hj1 : (j : Int) < ((j + 1 : Nat) : Int) := by omega
        have hj0 : (0 : Int) ≤ (j : Int) := by omega
        have hpk := HU.out.1
        clear hlj hts hsl hsz hs1
        rcases hpk with rfl | rfl
        · go_upto_region 7 with (first | (refine wpList_load_at rfl 29 (.tmp 18) rfl (ad.add ((j + 1) * 5)) rfl [.int .i64 7, .int .i64 (j : Int), .int .i64 0, .int .i64 0, strV []] _ HCS.out Tryd.underlying29 rfl (by kernel_rfl) ?_))
          have HW1 := Lib.hid (HW0.out.next (below_new wr (.cells #[.int .i64 7, .int .i64 (j : Int), .int .i64 0, .int .i64 0, strV []] 29)))
          have HB1 := Lib.hid (Blk.new wr 29 #[.int .i64 7, .int .i64 (j : Int), .int .i64 0, .int .i64 0, strV []])
          generalize wr.alloc (.cells #[.int .i64 7, .int .i64 (j : Int), .int .i64 0, .int .i64 0, strV []] 29) = w5 at HW1 HB1 ⊢
          generalize wr.heap.size = pb at HB1 ⊢
          have x0 : w5.cell? ⟨pb, 0, none⟩ = some (.int .i64 7) := HB1.out.cell 0
          have x1 : w5.cell? ⟨pb, 1, none⟩ = some (.int .i64 (j : Int)) := HB1.out.cell 1
          obtain ⟨ad4, rfl, y0⟩ := HW1.out.at_ (Nat.lt_succ_self j) HS.out
          go_upto_region 33 with fail
          rw [show ((⟨#[40]⟩ : ByteArray) ++ ⟨ts.toArray⟩ ++ ⟨#[32, 108, 105, 115, 116, 41]⟩) = ⟨([40] ++ ts ++ [32, 108, 105, 115, 116, 41]).toArray⟩ from by rw [← cat_bytes, ← cat_bytes]]
          go_wp2_with (at_builtin; refine wpList_append_any _ rfl (.tmp 105) (.tmp 107) 43 rfl W.heap.size 9 i9 _ 1 16 Tryd.underlying43 fi9 H9.out.1 H9.out.2.1 H9.out.2.2 rfl (by omega) (.slice (some ad4) (j + 1) c4) (j + 1) (xs.map strV) rfl (own_next HW1.out.own (below_new _ _)) ((w5).heap.size + 1) (some ⟨(w5).heap.size, 0, none⟩) 1 1 [strV ([40] ++ ts ++ [32, 108, 105, 115, 116, 41])] rfl (reads_str (w5) ([40] ++ ts ++ [32, 108, 105, 115, 116, 41])) (by simp [strV, Value.oneCell']) (by unfold maxLen; omega) (by omega) (by rw [World.size_alloc]; have := HW1.out.below.size; omega) ?_; intro v9 w9 oA gA _; have HO9 := Lib.hid oA; have HG9 := Lib.hid gA; clear oA gA)
          go_roundw
          case rel =>
            refine ⟨(j + 1) + 1, _, HLK.out.1, by first | exact wrap_succ HLK.out.1 HLK.out.2 | (have := HLK.out; go_num), HW1.out.push (s := [40] ++ ts ++ [32, 108, 105, 115, 116, 41]) ?_ HO9.out HG9.out⟩
            intro U' wU' hU'
            rw [at_fun m U' _ ((j + 1)) wU' HU.out hU' HAt.out]
            rw [← HTS.out]
            rfl
          case measure => first | exact meas_succ HLK.out.1 HLK.out.2 | (have := HLK.out; simp [intOf]; omega)

        · go_upto_region 7 with (first | (refine wpList_load_at rfl 29 (.tmp 18) rfl (ad.add ((j + 1) * 5)) rfl [.int .i64 9, .int .i64 (j : Int), .int .i64 0, .int .i64 0, strV []] _ HCS.out Tryd.underlying29 rfl (by kernel_rfl) ?_))
          have HW1 := Lib.hid (HW0.out.next (below_new wr (.cells #[.int .i64 9, .int .i64 (j : Int), .int .i64 0, .int .i64 0, strV []] 29)))
          have HB1 := Lib.hid (Blk.new wr 29 #[.int .i64 9, .int .i64 (j : Int), .int .i64 0, .int .i64 0, strV []])
          generalize wr.alloc (.cells #[.int .i64 9, .int .i64 (j : Int), .int .i64 0, .int .i64 0, strV []] 29) = w5 at HW1 HB1 ⊢
          generalize wr.heap.size = pb at HB1 ⊢
          have x0 : w5.cell? ⟨pb, 0, none⟩ = some (.int .i64 9) := HB1.out.cell 0
          have x1 : w5.cell? ⟨pb, 1, none⟩ = some (.int .i64 (j : Int)) := HB1.out.cell 1
          obtain ⟨ad4, rfl, y0⟩ := HW1.out.at_ (Nat.lt_succ_self j) HS.out
          go_upto_region 33 with fail
          rw [show ((⟨#[40]⟩ : ByteArray) ++ ⟨ts.toArray⟩ ++ ⟨#[32, 114, 101, 102, 41]⟩) = ⟨([40] ++ ts ++ [32, 114, 101, 102, 41]).toArray⟩ from by rw [← cat_bytes, ← cat_bytes]]
          go_wp2_with (at_builtin; refine wpList_append_any _ rfl (.tmp 105) (.tmp 107) 43 rfl W.heap.size 9 i9 _ 1 16 Tryd.underlying43 fi9 H9.out.1 H9.out.2.1 H9.out.2.2 rfl (by omega) (.slice (some ad4) (j + 1) c4) (j + 1) (xs.map strV) rfl (own_next HW1.out.own (below_new _ _)) ((w5).heap.size + 1) (some ⟨(w5).heap.size, 0, none⟩) 1 1 [strV ([40] ++ ts ++ [32, 114, 101, 102, 41])] rfl (reads_str (w5) ([40] ++ ts ++ [32, 114, 101, 102, 41])) (by simp [strV, Value.oneCell']) (by unfold maxLen; omega) (by omega) (by rw [World.size_alloc]; have := HW1.out.below.size; omega) ?_; intro v9 w9 oA gA _; have HO9 := Lib.hid oA; have HG9 := Lib.hid gA; clear oA gA)
          go_roundw
          case rel =>
            refine ⟨(j + 1) + 1, _, HLK.out.1, by first | exact wrap_succ HLK.out.1 HLK.out.2 | (have := HLK.out; go_num), HW1.out.push (s := [40] ++ ts ++ [32, 114, 101, 102, 41]) ?_ HO9.out HG9.out⟩
            intro U' wU' hU'
            rw [at_fun m U' _ ((j + 1)) wU' HU.out hU' HAt.out]
            rw [← HTS.out]
            rfl
          case measure => first | exact meas_succ HLK.out.1 HLK.out.2 | (have := HLK.out; simp [intOf]; omega)

      | two pk s' u' =>
        obtain ⟨j, h, rfl, hlj, hAs, hAu, hhj⟩ := HAt.out
        obtain rfl : p = ⟨pk, (h : Int), (j : Int), 0, []⟩ := (Option.some.inj (HPK.out.symm.trans hlj))
        have hup := u'.size_pos
        have hs1 := HW0.out.told h s' (by omega) HU.out.2.1 hAs
        have hs2 := HW0.out.told j u' (by omega) HU.out.2.2 hAu
        have hsl := tx_len HTm.out s' h hAs
        have hul := tx_len HTm.out u' j hAu
        have hsz := hAs.size
        have huz := hAu.size
        generalize hts : tx s' = ts at hs1 hsl
        generalize htu : tx u' = tu at hs2 hul
        have HTS := Lib.hid hts
        have HTU := Lib.hid htu
        have HS := Lib.hid hs1
        have HS2 := Lib.hid hs2
        have htl : ts.length ≤ 700000 := by omega
        have hul2 : tu.length ≤ 700000 := by omega
        have hss := strV_size ts
        have hsu := strV_size tu
        have hj1 : (j : Int) < ((j + 1 : Nat) : Int) := by omega
        have hj0 : (0 : Int) ≤ (j : Int) := by omega
        have hh1 : (h : Int) < ((j + 1 : Nat) : Int) := by omega
        have hh0 : (0 : Int) ≤ (h : Int) := by omega
        have hpk := HU.out.1
        clear hlj hts htu hsl hsz hul huz hs1 hs2
        rcases hpk with rfl | rfl
        · go_upto_region 7 with (first | (refine wpList_load_at rfl 29 (.tmp 18) rfl (ad.add ((j + 1) * 5)) rfl [.int .i64 6, .int .i64 (h : Int), .int .i64 (j : Int), .int .i64 0, strV []] _ HCS.out Tryd.underlying29 rfl (by kernel_rfl) ?_))
          have HW1 := Lib.hid (HW0.out.next (below_new wr (.cells #[.int .i64 6, .int .i64 (h : Int), .int .i64 (j : Int), .int .i64 0, strV []] 29)))
          have HB1 := Lib.hid (Blk.new wr 29 #[.int .i64 6, .int .i64 (h : Int), .int .i64 (j : Int), .int .i64 0, strV []])
          generalize wr.alloc (.cells #[.int .i64 6, .int .i64 (h : Int), .int .i64 (j : Int), .int .i64 0, strV []] 29) = w5 at HW1 HB1 ⊢
          generalize wr.heap.size = pb at HB1 ⊢
          have x0 : w5.cell? ⟨pb, 0, none⟩ = some (.int .i64 6) := HB1.out.cell 0
          have x1 : w5.cell? ⟨pb, 1, none⟩ = some (.int .i64 (h : Int)) := HB1.out.cell 1
          have x2 : w5.cell? ⟨pb, 2, none⟩ = some (.int .i64 (j : Int)) := HB1.out.cell 2
          obtain ⟨ad4, rfl, y0⟩ := HW1.out.at_ (by omega) HS.out
          obtain ⟨ad5, e5, y1⟩ := HW1.out.at_ (by omega) HS2.out
          obtain rfl := Option.some.inj e5
          clear e5
          go_upto_region 22 with fail
          go_quiet (fail)
          have HW1 := Lib.hid (HW1.out.next (below_drewN (Below.refl _ _) nq))
          clear x0 x1 x2 y0 y1 HB1
          generalize w5.drewN nq = w6 at HW1 ⊢
          obtain ⟨hlt', hlen'⟩ := HLK.out
          have hws' := HW1.out.below.size
          go_upto_region 33 with fail
          rw [show ((⟨#[40]⟩ : ByteArray) ++ ⟨ts.toArray⟩ ++ ⟨#[32, 42, 32]⟩ ++ ⟨tu.toArray⟩ ++ ⟨#[41]⟩) = ⟨([40] ++ ts ++ [32, 42, 32] ++ tu ++ [41]).toArray⟩ from by rw [← cat_bytes, ← cat_bytes, ← cat_bytes, ← cat_bytes]]
          generalize hsv : [40] ++ ts ++ [32, 42, 32] ++ tu ++ [41] = sv
          have HSV := Lib.hid hsv
          clear hsv
          go_wp2_with (at_builtin; refine wpList_append_any _ rfl (.tmp 105) (.tmp 107) 43 rfl W.heap.size 9 i9 _ 1 16 Tryd.underlying43 fi9 H9.out.1 H9.out.2.1 H9.out.2.2 rfl (by omega) (.slice (some ad4) (j + 1) c4) (j + 1) (xs.map strV) rfl (own_next HW1.out.own (below_new _ _)) ((w6).heap.size + 1) (some ⟨(w6).heap.size, 0, none⟩) 1 1 [strV (sv)] rfl (reads_str (w6) (sv)) (by simp [strV, Value.oneCell']) (by unfold maxLen; omega) (by omega) (by rw [World.size_alloc]; have := HW1.out.below.size; omega) ?_; intro v9 w9 oA gA _; have HO9 := Lib.hid oA; have HG9 := Lib.hid gA; clear oA gA)
          go_roundw
          case rel =>
            refine ⟨(j + 1) + 1, _, HLK.out.1, by first | exact wrap_succ HLK.out.1 HLK.out.2 | (have := HLK.out; go_num), HW1.out.push (s := sv) ?_ HO9.out HG9.out⟩
            intro U' wU' hU'
            rw [at_fun m U' _ ((j + 1)) wU' HU.out hU' HAt.out]
            rw [← HSV.out, ← HTS.out, ← HTU.out]
            rfl
          case measure => first | exact meas_succ HLK.out.1 HLK.out.2 | (have := HLK.out; simp [intOf]; omega)

        · go_upto_region 7 with (first | (refine wpList_load_at rfl 29 (.tmp 18) rfl (ad.add ((j + 1) * 5)) rfl [.int .i64 8, .int .i64 (h : Int), .int .i64 (j : Int), .int .i64 0, strV []] _ HCS.out Tryd.underlying29 rfl (by kernel_rfl) ?_))
          have HW1 := Lib.hid (HW0.out.next (below_new wr (.cells #[.int .i64 8, .int .i64 (h : Int), .int .i64 (j : Int), .int .i64 0, strV []] 29)))
          have HB1 := Lib.hid (Blk.new wr 29 #[.int .i64 8, .int .i64 (h : Int), .int .i64 (j : Int), .int .i64 0, strV []])
          generalize wr.alloc (.cells #[.int .i64 8, .int .i64 (h : Int), .int .i64 (j : Int), .int .i64 0, strV []] 29) = w5 at HW1 HB1 ⊢
          generalize wr.heap.size = pb at HB1 ⊢
          have x0 : w5.cell? ⟨pb, 0, none⟩ = some (.int .i64 8) := HB1.out.cell 0
          have x1 : w5.cell? ⟨pb, 1, none⟩ = some (.int .i64 (h : Int)) := HB1.out.cell 1
          have x2 : w5.cell? ⟨pb, 2, none⟩ = some (.int .i64 (j : Int)) := HB1.out.cell 2
          obtain ⟨ad4, rfl, y0⟩ := HW1.out.at_ (by omega) HS.out
          obtain ⟨ad5, e5, y1⟩ := HW1.out.at_ (by omega) HS2.out
          obtain rfl := Option.some.inj e5
          clear e5
          go_upto_region 26 with fail
          go_quiet (fail)
          have HW1 := Lib.hid (HW1.out.next (below_drewN (Below.refl _ _) nq))
          clear x0 x1 x2 y0 y1 HB1
          generalize w5.drewN nq = w6 at HW1 ⊢
          obtain ⟨hlt', hlen'⟩ := HLK.out
          have hws' := HW1.out.below.size
          go_upto_region 33 with fail
          rw [show ((⟨#[40]⟩ : ByteArray) ++ ⟨ts.toArray⟩ ++ ⟨#[32, 45, 62, 32]⟩ ++ ⟨tu.toArray⟩ ++ ⟨#[41]⟩) = ⟨([40] ++ ts ++ [32, 45, 62, 32] ++ tu ++ [41]).toArray⟩ from by rw [← cat_bytes, ← cat_bytes, ← cat_bytes, ← cat_bytes]]
          generalize hsv : [40] ++ ts ++ [32, 45, 62, 32] ++ tu ++ [41] = sv
          have HSV := Lib.hid hsv
          clear hsv
          go_wp2_with (at_builtin; refine wpList_append_any _ rfl (.tmp 105) (.tmp 107) 43 rfl W.heap.size 9 i9 _ 1 16 Tryd.underlying43 fi9 H9.out.1 H9.out.2.1 H9.out.2.2 rfl (by omega) (.slice (some ad4) (j + 1) c4) (j + 1) (xs.map strV) rfl (own_next HW1.out.own (below_new _ _)) ((w6).heap.size + 1) (some ⟨(w6).heap.size, 0, none⟩) 1 1 [strV (sv)] rfl (reads_str (w6) (sv)) (by simp [strV, Value.oneCell']) (by unfold maxLen; omega) (by omega) (by rw [World.size_alloc]; have := HW1.out.below.size; omega) ?_; intro v9 w9 oA gA _; have HO9 := Lib.hid oA; have HG9 := Lib.hid gA; clear oA gA)
          go_roundw
          case rel =>
            refine ⟨(j + 1) + 1, _, HLK.out.1, by first | exact wrap_succ HLK.out.1 HLK.out.2 | (have := HLK.out; go_num), HW1.out.push (s := sv) ?_ HO9.out HG9.out⟩
            intro U' wU' hU'
            rw [at_fun m U' _ ((j + 1)) wU' HU.out hU' HAt.out]
            rw [← HSV.out, ← HTS.out, ← HTU.out]
            rfl
          case measure => first | exact meas_succ HLK.out.1 HLK.out.2 | (have := HLK.out; simp [intOf]; omega)

    · obtain rfl : k = m.length := by omega
      have hlk : ¬ ((m.length : Int) < (m.length : Int)) := by omega
      have hTT : ∃ T : Ty, T.wf ∧ m = enc 0 T := by
        obtain ⟨T, w, e, _⟩ := (gTy_iff _).1 (norm_good HG.out)
        exact ⟨T, w, HM.out.symm.trans e⟩
      obtain ⟨T, wT, eT⟩ := hTT
      have hmT : m.length = T.size := by rw [eT, enc_len]
      have hx := HW0.out.told (m.length - 1) T (by omega) wT (by rw [hmT, eT]; exact at_of_enc T)
      obtain ⟨ad4, rfl, y0⟩ := HW0.out.at_ (show m.length - 1 < m.length by omega) hx
      have f1 : IntKind.i64.wrap ((m.length : Int) - 1) = ((m.length - 1 : Nat) : Int) := wrap_pred hpos (by omega)
      have f2 : ((m.length - 1 : Nat) : Int) < (m.length : Int) := by omega
      have f3 : (0 : Int) ≤ ((m.length - 1 : Nat) : Int) := by omega
      have HR := Lib.hid (show ∀ T', Ty.wf T' → norm l = enc 0 T' → tx T = tx T' from fun T' w' e' => by rw [enc_inj wT w' (eT.symm.trans (HM.out.symm.trans e'))])
      clear hk hlt hx hmT eT wT
      go_wp2_with fail
      go_ret
      exact ⟨_, rfl, HW0.out.below, HR.out⟩
end Go.Proofs.YtcilodgpbdafeaaDoor
namespace Go.Proofs.YtcilodgpbdafeaaDoor
open Go.ChangeShapes Go.WideShapes Go.ChangeAt Go.RowKit
set_option linter.unusedVariables false
set_option linter.unusedSimpArgs false
set_option maxRecDepth 100000 in
set_option maxHeartbeats 4000000 in
theorem c26 (l : List Part) (A : Option Addr) (c : Nat) (W : World) (ha : RT W A l) (hl : l.length ≤ 3000) : Calls Tryd.prog 26 #[.slice A l.length c] W fun e W' => e = .returned (.bool (gSend l)) ∧ Below W.heap.size W W' := by
  have HA := Lib.hid ha
  clear ha
  go_enter Tryd.func26, Tryd.ntmps26
  go_wp2_with fail
  go_loopw [3] (fun i wr => ∃ k : Nat, k ≤ l.length ∧ i = .int .i64 k ∧ Below W.heap.size W wr ∧ plainK (l.take k) = true) (fun i _ => l.length - (intOf i).toNat)
  case atStart => exact ⟨0, by omega, rfl, Below.refl _ _, rfl⟩
  case round =>
    obtain ⟨k, hk, rfl, hb, hp⟩ := hrel
    have HB := Lib.hid hb
    have HP := Lib.hid hp
    clear hb hp
    by_cases hlt : k < l.length
    · have hlk : (k : Int) < (l.length : Int) := by omega
      have hk0 : (0 : Int) ≤ (k : Int) := by omega
      obtain ⟨ad, rfl, _, hcs⟩ := ((HA.out.next HB.out).partAt (List.getElem?_eq_getElem hlt))
      have hpk : l[k]? = some l[k] := List.getElem?_eq_getElem hlt
      generalize l[k] = p at hcs hpk
      have HCS := Lib.hid (show wr.cell? (ad.add (k * 5)) = some (.int .i64 p.k) from hcs 0 _ rfl)
      have HPK := Lib.hid hpk
      clear hcs hpk
      cases hs : stays p.k with
      | true =>
        have HG := Lib.hid (gSend_no HPK.out hs)
        have hk4 : p.k = 11 ∨ p.k = 8 ∨ p.k = 9 ∨ p.k = 5 := by
          unfold stays at hs
          simp at hs
          omega
        clear hs
        obtain ⟨pk, pa, pb, pn, pt⟩ := p
        simp only at hk4
        rcases hk4 with rfl | rfl | rfl | rfl
        · have p0 := HCS.out
          go_wp2_with fail
          go_ret
          exact ⟨by rw [HG.out]; rfl, HB.out⟩
        · have p0 := HCS.out
          go_wp2_with fail
          go_ret
          exact ⟨by rw [HG.out]; rfl, HB.out⟩
        · have p0 := HCS.out
          go_wp2_with fail
          go_ret
          exact ⟨by rw [HG.out]; rfl, HB.out⟩
        · have p0 := HCS.out
          go_wp2_with fail
          go_ret
          exact ⟨by rw [HG.out]; rfl, HB.out⟩
      | false =>
        have HPl := Lib.hid (plain_step HPK.out HP.out hs)
        have hk4 : p.k ≠ 11 ∧ p.k ≠ 8 ∧ p.k ≠ 9 ∧ p.k ≠ 5 := by
          unfold stays at hs
          simp at hs
          omega
        have f11 : (p.k == 11) = false := beq_false_of_ne hk4.1
        have f8 : (p.k == 8) = false := beq_false_of_ne hk4.2.1
        have f9 : (p.k == 9) = false := beq_false_of_ne hk4.2.2.1
        have f5 : (p.k == 5) = false := beq_false_of_ne hk4.2.2.2
        clear hs hk4
        have p0 := HCS.out
        go_wp2_with fail
        go_roundw
        case rel => exact ⟨k + 1, by omega, by go_num, HB.out, HPl.out⟩
        case measure => simp [intOf]; omega
    · have hkl : k = l.length := by omega
      subst hkl
      have hlk : ¬ ((l.length : Int) < (l.length : Int)) := by omega
      have HG := Lib.hid (show gSend l = gTy l by
        have h := HP.out
        rw [List.take_length] at h
        unfold gSend
        rw [h]
        rfl)
      go_wp2_with fail
      refine (c9b l A c wr (HA.out.next HB.out)).mono ?_
      rw [← HG.out]
      rintro e w2 ⟨rfl, hb2⟩
      have HB2 := Lib.hid (next_ HB.out hb2)
      clear hb2
      generalize hgs : gSend l = gs
      have HGS := Lib.hid hgs
      clear hgs
      go_wp2_with fail
      go_ret
      exact ⟨by rw [HGS.out]; rfl, HB2.out⟩
end Go.Proofs.YtcilodgpbdafeaaDoor
namespace Go.Proofs.YtcilodgpbdafeaaDoor
open Go.ChangeShapes Go.WideShapes Go.ChangeAt Go.RowKit
set_option linter.unusedVariables false
set_option linter.unusedSimpArgs false
theorem type_back {l : List Part} {b : Nat} {W' : World} {v : Value} (h : W'.ownsRow b 29 5 v l.length (l.flatMap partC)) : ∃ A c, v = .slice A l.length c ∧ RT W' A l := by
  obtain ⟨A, c, rfl⟩ := own_form h
  exact ⟨A, c, rfl, Reads.of_own h⟩
set_option maxRecDepth 100000 in
set_option maxHeartbeats 16000000 in
theorem c5 (a b : List Part) (Aa Ab : Option Addr) (ca cb : Nat) (W : World) (ha : Handed W Aa a) (hb : Handed W Ab b) (ht : WordTab W) :
    Calls Tryd.prog 5 #[.slice Aa a.length ca, .slice Ab b.length cb] W fun e W' => e = .returned (.bool true) ∧ Below W.heap.size W W' := by
  have HA := Lib.hid ha
  have HB := Lib.hid hb
  have HT := Lib.hid ht
  clear ha hb ht
  go_enter Tryd.func5, Tryd.ntmps5
  go_wp2_with fail
  refine (c8b a Aa ca _ HA.out).mono ?_
  rintro e w ⟨rfl, rfl⟩
  cases hla : large a with
  | true =>
    go_wp2_with fail
    refine (c10 _ HT.out).mono ?_
    rintro e wz ⟨rfl, hbz⟩
    go_wp2_with fail
    go_ret
    exact ⟨rfl, hbz⟩
  | false =>
  go_wp2_with fail
  refine (c8b b Ab cb _ HB.out).mono ?_
  rintro e w ⟨rfl, rfl⟩
  cases hlb : large b with
  | true =>
    go_wp2_with fail
    refine (c10 _ HT.out).mono ?_
    rintro e wz ⟨rfl, hbz⟩
    go_wp2_with fail
    go_ret
    exact ⟨rfl, hbz⟩
  | false =>
  have HLA := Lib.hid (large_len hla)
  have HLB := Lib.hid (large_len hlb)
  have HXA := Lib.hid (large_txt hla)
  have HXB := Lib.hid (large_txt hlb)
  have RA := Lib.hid HA.out.rt
  have RB := Lib.hid HB.out.rt
  have BB := Lib.hid (Below.refl W.heap.size W)
  clear hla hlb HA HB
  go_wp2_with fail
  refine (c19 a Aa ca _ RA.out HLA.out).mono ?_
  rintro e w1 ⟨v1, rfl, oP, b1⟩
  replace BB := Lib.hid (next_ BB.out b1)
  replace RA := Lib.hid (RA.out.next b1)
  replace RB := Lib.hid (RB.out.next b1)
  replace HT := Lib.hid (HT.out.next b1)
  obtain ⟨Ap, cp, rfl, rp⟩ := type_back oP
  have RP := Lib.hid rp
  clear oP rp
  clear b1
  go_wp2_with fail
  refine (c19 b Ab cb _ RB.out HLB.out).mono ?_
  rintro e w2 ⟨v2, rfl, oQ, b2⟩
  replace BB := Lib.hid (next_ BB.out b2)
  replace RA := Lib.hid (RA.out.next b2)
  replace RB := Lib.hid (RB.out.next b2)
  replace HT := Lib.hid (HT.out.next b2)
  replace RP := Lib.hid (RP.out.next b2)
  obtain ⟨Aq, cq, rfl, rq⟩ := type_back oQ
  have RQ := Lib.hid rq
  clear oQ rq
  clear b2
  go_wp2_with fail
  refine (c20 a Ap cp _ RP.out).mono ?_
  rintro e w3 ⟨v3, rfl, b3, hy, hn⟩
  replace BB := Lib.hid (next_ BB.out b3)
  replace RA := Lib.hid (RA.out.next b3)
  replace RB := Lib.hid (RB.out.next b3)
  replace HT := Lib.hid (HT.out.next b3)
  replace RP := Lib.hid (RP.out.next b3)
  replace RQ := Lib.hid (RQ.out.next b3)
  have HY3 := Lib.hid hy
  have HN3 := Lib.hid hn
  clear hy hn
  clear b3
  cases hga : gTy a with
  | false =>
    have HGA := Lib.hid hga
    clear hga
    obtain rfl := HN3.out HGA.out
    clear HY3 HN3
    go_wp2_with fail
    refine (c21 a b Ap Aq cp cq _ RP.out RQ.out).mono ?_
    rintro e w4 ⟨r, v4, rfl, hm, b4, h1, h2⟩
    replace BB := Lib.hid (next_ BB.out b4)
    replace RA := Lib.hid (RA.out.next b4)
    replace RB := Lib.hid (RB.out.next b4)
    replace HT := Lib.hid (HT.out.next b4)
    replace RP := Lib.hid (RP.out.next b4)
    replace RQ := Lib.hid (RQ.out.next b4)
    have HM := Lib.hid hm
    have H41 := Lib.hid h1
    have H42 := Lib.hid h2
    clear hm h1 h2
    clear b4
    cases r with
    | some m =>
      have := HM.out.tame.1
      rw [HGA.out] at this
      cases this
    | none =>
      obtain rfl := H42.out rfl
      rw [show Option.isSome (none : Option (List Part)) = false from rfl]
      clear H41 H42
      go_wp2_with fail
      refine (c22 a b Aa Ab ca cb _ RA.out RB.out).mono ?_
      rintro e w5 ⟨r5, v5, rfl, hm5, b5, h1, h2⟩
      replace BB := Lib.hid (next_ BB.out b5)
      replace RA := Lib.hid (RA.out.next b5)
      replace RB := Lib.hid (RB.out.next b5)
      replace HT := Lib.hid (HT.out.next b5)
      replace RP := Lib.hid (RP.out.next b5)
      replace RQ := Lib.hid (RQ.out.next b5)
      obtain rfl := hm5.one HM.out
      obtain rfl := h2 rfl
      clear h1 h2 hm5
      clear b5
      go_wp2_with fail
      refine (c9b a Aa ca _ RA.out).mono ?_
      rintro e w6 ⟨rfl, b6⟩
      replace BB := Lib.hid (next_ BB.out b6)
      replace RA := Lib.hid (RA.out.next b6)
      replace RB := Lib.hid (RB.out.next b6)
      replace HT := Lib.hid (HT.out.next b6)
      replace RP := Lib.hid (RP.out.next b6)
      replace RQ := Lib.hid (RQ.out.next b6)
      rw [HGA.out]
      clear b6
      go_wp2_with fail
      refine (c13b a Ap cp _ RP.out).mono ?_
      rintro e w7 ⟨rfl, b7⟩
      replace BB := Lib.hid (next_ BB.out b7)
      replace RA := Lib.hid (RA.out.next b7)
      replace RB := Lib.hid (RB.out.next b7)
      replace HT := Lib.hid (HT.out.next b7)
      replace RP := Lib.hid (RP.out.next b7)
      replace RQ := Lib.hid (RQ.out.next b7)
      rw [HGA.out]
      clear b7
      go_wp2_with fail
      refine (c9b a Aa ca _ RA.out).mono ?_
      rintro e w8 ⟨rfl, b8⟩
      replace BB := Lib.hid (next_ BB.out b8)
      replace RA := Lib.hid (RA.out.next b8)
      replace RB := Lib.hid (RB.out.next b8)
      replace HT := Lib.hid (HT.out.next b8)
      replace RP := Lib.hid (RP.out.next b8)
      replace RQ := Lib.hid (RQ.out.next b8)
      rw [HGA.out]
      clear b8
      go_wp2_with fail
      refine (c18 [] [] none none 0 0 _ (RT.none_ _) (RT.none_ _) (by simp)).mono ?_
      rintro e w9 ⟨rfl, b9⟩
      replace BB := Lib.hid (next_ BB.out b9)
      replace RA := Lib.hid (RA.out.next b9)
      replace RB := Lib.hid (RB.out.next b9)
      replace HT := Lib.hid (HT.out.next b9)
      replace RP := Lib.hid (RP.out.next b9)
      replace RQ := Lib.hid (RQ.out.next b9)
      first | rw [decide_eq_true rfl] | rw [decide_eq_true trivial]
      clear b9
      go_wp2_with fail
      refine (c9b a Aa ca _ RA.out).mono ?_
      rintro e w10 ⟨rfl, b10⟩
      replace BB := Lib.hid (next_ BB.out b10)
      replace RA := Lib.hid (RA.out.next b10)
      replace RB := Lib.hid (RB.out.next b10)
      replace HT := Lib.hid (HT.out.next b10)
      replace RP := Lib.hid (RP.out.next b10)
      replace RQ := Lib.hid (RQ.out.next b10)
      rw [HGA.out]
      clear b10
      go_wp2_with fail
      refine (c15 a Ap cp _ RP.out HXA.out HT.out).mono ?_
      rintro e w11 ⟨s1, rfl, b11, g1, g2⟩
      replace BB := Lib.hid (next_ BB.out b11)
      replace RA := Lib.hid (RA.out.next b11)
      replace RB := Lib.hid (RB.out.next b11)
      replace HT := Lib.hid (HT.out.next b11)
      replace RP := Lib.hid (RP.out.next b11)
      replace RQ := Lib.hid (RQ.out.next b11)
      obtain rfl := g1 HGA.out
      clear g1 g2
      rw [show strV [] = .string ⟨#[]⟩ from rfl]
      clear b11
      go_wp2_with fail
      refine (c16 a b Ap Aq cp cq _ RP.out RQ.out).mono ?_
      rintro e w12 ⟨r7, rfl, i7, b12⟩
      replace BB := Lib.hid (next_ BB.out b12)
      replace RA := Lib.hid (RA.out.next b12)
      replace RB := Lib.hid (RB.out.next b12)
      replace HT := Lib.hid (HT.out.next b12)
      replace RP := Lib.hid (RP.out.next b12)
      replace RQ := Lib.hid (RQ.out.next b12)
      have HI7 := Lib.hid i7
      clear i7
      clear b12
      go_wp2_with fail
      refine (c25 a b Aa Ab ca cb _ RA.out RB.out).mono ?_
      rintro e w13 ⟨r8, rfl, i8, b13⟩
      replace BB := Lib.hid (next_ BB.out b13)
      replace RA := Lib.hid (RA.out.next b13)
      replace RB := Lib.hid (RB.out.next b13)
      replace HT := Lib.hid (HT.out.next b13)
      replace RP := Lib.hid (RP.out.next b13)
      replace RQ := Lib.hid (RQ.out.next b13)
      obtain rfl : r7 = r8 := Bool.eq_iff_iff.2 (HI7.out.trans i8.symm)
      clear i8 HI7
      have fr : (r7 == r7) = true := beq_self_eq_true r7
      clear b13
      go_wp2_with fail
      refine (c14 a Ap cp _ RP.out HLA.out).mono ?_
      rintro e w14 ⟨rfl, b14⟩
      replace BB := Lib.hid (next_ BB.out b14)
      replace RA := Lib.hid (RA.out.next b14)
      replace RB := Lib.hid (RB.out.next b14)
      replace HT := Lib.hid (HT.out.next b14)
      replace RP := Lib.hid (RP.out.next b14)
      replace RQ := Lib.hid (RQ.out.next b14)
      have HGS := Lib.hid (c26 a Aa ca _ RA.out HLA.out)
      generalize gSend a = gs at HGS ⊢
      have fg : (gs == gs) = true := beq_self_eq_true gs
      clear b14
      clear fr
      go_wp2_with fail
      refine HGS.out.mono ?_
      rintro e w15 ⟨rfl, b15⟩
      replace BB := Lib.hid (next_ BB.out b15)
      replace RA := Lib.hid (RA.out.next b15)
      replace RB := Lib.hid (RB.out.next b15)
      replace HT := Lib.hid (HT.out.next b15)
      replace RP := Lib.hid (RP.out.next b15)
      replace RQ := Lib.hid (RQ.out.next b15)
      clear b15 HGS
      go_wp2_with fail
      refine (c18 [] [] none none 0 0 _ (RT.none_ _) (RT.none_ _) (by simp)).mono ?_
      rintro e w16 ⟨rfl, b16⟩
      replace BB := Lib.hid (next_ BB.out b16)
      replace RA := Lib.hid (RA.out.next b16)
      replace RB := Lib.hid (RB.out.next b16)
      replace HT := Lib.hid (HT.out.next b16)
      replace RP := Lib.hid (RP.out.next b16)
      replace RQ := Lib.hid (RQ.out.next b16)
      first | rw [decide_eq_true rfl] | rw [decide_eq_true trivial]
      clear fg
      clear b16
      go_wp2_with fail
      refine (c18 a a Ap Aa cp ca _ RP.out RA.out HLA.out).mono ?_
      rintro e w17 ⟨rfl, b17⟩
      replace BB := Lib.hid (next_ BB.out b17)
      replace RA := Lib.hid (RA.out.next b17)
      replace RB := Lib.hid (RB.out.next b17)
      replace HT := Lib.hid (HT.out.next b17)
      replace RP := Lib.hid (RP.out.next b17)
      replace RQ := Lib.hid (RQ.out.next b17)
      first | rw [decide_eq_true rfl] | rw [decide_eq_true trivial]
      clear b17
      go_wp2_with fail
      refine (c18 b b Aq Ab cq cb _ RQ.out RB.out HLB.out).mono ?_
      rintro e w18 ⟨rfl, b18⟩
      replace BB := Lib.hid (next_ BB.out b18)
      replace RA := Lib.hid (RA.out.next b18)
      replace RB := Lib.hid (RB.out.next b18)
      replace HT := Lib.hid (HT.out.next b18)
      replace RP := Lib.hid (RP.out.next b18)
      replace RQ := Lib.hid (RQ.out.next b18)
      first | rw [decide_eq_true rfl] | rw [decide_eq_true trivial]
      clear b18
      go_wp2_with fail
      refine (c10 _ HT.out).mono ?_
      rintro e wz ⟨rfl, hbz⟩
      go_wp2_with fail
      go_ret
      exact ⟨rfl, next_ BB.out hbz⟩
  | true =>
    have HGA := Lib.hid hga
    clear hga
    obtain ⟨An, cn, rfl, rn⟩ := norm_back (HY3.out HGA.out)
    have RN := Lib.hid rn
    clear rn HY3 HN3
    go_wp2_with fail
    refine (c21 a b Ap Aq cp cq _ RP.out RQ.out).mono ?_
    rintro e w4 ⟨r, v4, rfl, hm, b4, h1, h2⟩
    replace BB := Lib.hid (next_ BB.out b4)
    replace RA := Lib.hid (RA.out.next b4)
    replace RB := Lib.hid (RB.out.next b4)
    replace HT := Lib.hid (HT.out.next b4)
    replace RP := Lib.hid (RP.out.next b4)
    replace RQ := Lib.hid (RQ.out.next b4)
    replace RN := Lib.hid (RN.out.next b4)
    have HM := Lib.hid hm
    have H41 := Lib.hid h1
    have H42 := Lib.hid h2
    clear hm h1 h2
    clear b4
    cases r with
    | none =>
      obtain rfl := H42.out rfl
      rw [show Option.isSome (none : Option (List Part)) = false from rfl]
      clear H41 H42
      go_wp2_with fail
      refine (c22 a b Aa Ab ca cb _ RA.out RB.out).mono ?_
      rintro e w5 ⟨r5, v5, rfl, hm5, b5, h1, h2⟩
      replace BB := Lib.hid (next_ BB.out b5)
      replace RA := Lib.hid (RA.out.next b5)
      replace RB := Lib.hid (RB.out.next b5)
      replace HT := Lib.hid (HT.out.next b5)
      replace RP := Lib.hid (RP.out.next b5)
      replace RQ := Lib.hid (RQ.out.next b5)
      replace RN := Lib.hid (RN.out.next b5)
      obtain rfl := hm5.one HM.out
      obtain rfl := h2 rfl
      clear h1 h2 hm5
      clear b5
      go_wp2_with fail
      refine (c9b a Aa ca _ RA.out).mono ?_
      rintro e w6 ⟨rfl, b6⟩
      replace BB := Lib.hid (next_ BB.out b6)
      replace RA := Lib.hid (RA.out.next b6)
      replace RB := Lib.hid (RB.out.next b6)
      replace HT := Lib.hid (HT.out.next b6)
      replace RP := Lib.hid (RP.out.next b6)
      replace RQ := Lib.hid (RQ.out.next b6)
      replace RN := Lib.hid (RN.out.next b6)
      rw [HGA.out]
      clear b6
      go_wp2_with fail
      refine (c23 a Aa ca _ HGA.out RA.out).mono ?_
      rintro e w7 ⟨v6, rfl, oN, b7⟩
      replace BB := Lib.hid (next_ BB.out b7)
      replace RA := Lib.hid (RA.out.next b7)
      replace RB := Lib.hid (RB.out.next b7)
      replace HT := Lib.hid (HT.out.next b7)
      replace RP := Lib.hid (RP.out.next b7)
      replace RQ := Lib.hid (RQ.out.next b7)
      replace RN := Lib.hid (RN.out.next b7)
      rw [norm_len] at oN
      obtain ⟨Ak, ck, rfl, rk⟩ := norm_back oN
      have RK := Lib.hid rk
      clear oN rk
      clear b7
      go_wp2_with fail
      refine (c24 a Aa ca _ HGA.out RA.out HXA.out).mono ?_
      rintro e w8 ⟨st, rfl, b8, hst⟩
      replace BB := Lib.hid (next_ BB.out b8)
      replace RA := Lib.hid (RA.out.next b8)
      replace RB := Lib.hid (RB.out.next b8)
      replace HT := Lib.hid (HT.out.next b8)
      replace RP := Lib.hid (RP.out.next b8)
      replace RQ := Lib.hid (RQ.out.next b8)
      replace RN := Lib.hid (RN.out.next b8)
      replace RK := Lib.hid (RK.out.next b8)
      have HST := Lib.hid hst
      clear hst
      clear b8
      go_wp2_with fail
      refine (c13b a Ap cp _ RP.out).mono ?_
      rintro e w9 ⟨rfl, b9⟩
      replace BB := Lib.hid (next_ BB.out b9)
      replace RA := Lib.hid (RA.out.next b9)
      replace RB := Lib.hid (RB.out.next b9)
      replace HT := Lib.hid (HT.out.next b9)
      replace RP := Lib.hid (RP.out.next b9)
      replace RQ := Lib.hid (RQ.out.next b9)
      replace RN := Lib.hid (RN.out.next b9)
      replace RK := Lib.hid (RK.out.next b9)
      rw [HGA.out]
      clear b9
      go_wp2_with fail
      refine (c9b a Aa ca _ RA.out).mono ?_
      rintro e w10 ⟨rfl, b10⟩
      replace BB := Lib.hid (next_ BB.out b10)
      replace RA := Lib.hid (RA.out.next b10)
      replace RB := Lib.hid (RB.out.next b10)
      replace HT := Lib.hid (HT.out.next b10)
      replace RP := Lib.hid (RP.out.next b10)
      replace RQ := Lib.hid (RQ.out.next b10)
      replace RN := Lib.hid (RN.out.next b10)
      replace RK := Lib.hid (RK.out.next b10)
      rw [HGA.out]
      clear b10
      go_wp2_with fail
      refine (c18n a a An Ak cn ck _ RN.out RK.out HLA.out).mono ?_
      rintro e w11 ⟨rfl, b11⟩
      replace BB := Lib.hid (next_ BB.out b11)
      replace RA := Lib.hid (RA.out.next b11)
      replace RB := Lib.hid (RB.out.next b11)
      replace HT := Lib.hid (HT.out.next b11)
      replace RP := Lib.hid (RP.out.next b11)
      replace RQ := Lib.hid (RQ.out.next b11)
      replace RN := Lib.hid (RN.out.next b11)
      replace RK := Lib.hid (RK.out.next b11)
      first | rw [decide_eq_true rfl] | rw [decide_eq_true trivial]
      clear b11
      go_wp2_with fail
      refine (c9b a Aa ca _ RA.out).mono ?_
      rintro e w12 ⟨rfl, b12⟩
      replace BB := Lib.hid (next_ BB.out b12)
      replace RA := Lib.hid (RA.out.next b12)
      replace RB := Lib.hid (RB.out.next b12)
      replace HT := Lib.hid (HT.out.next b12)
      replace RP := Lib.hid (RP.out.next b12)
      replace RQ := Lib.hid (RQ.out.next b12)
      replace RN := Lib.hid (RN.out.next b12)
      replace RK := Lib.hid (RK.out.next b12)
      rw [HGA.out]
      clear b12
      go_wp2_with fail
      refine (c15 a Ap cp _ RP.out HXA.out HT.out).mono ?_
      rintro e w13 ⟨s1, rfl, b13, g1, g2⟩
      replace BB := Lib.hid (next_ BB.out b13)
      replace RA := Lib.hid (RA.out.next b13)
      replace RB := Lib.hid (RB.out.next b13)
      replace HT := Lib.hid (HT.out.next b13)
      replace RP := Lib.hid (RP.out.next b13)
      replace RQ := Lib.hid (RQ.out.next b13)
      replace RN := Lib.hid (RN.out.next b13)
      replace RK := Lib.hid (RK.out.next b13)
      obtain ⟨T0, wT0, eT0⟩ := tree_of HGA.out
      obtain rfl : s1 = st := (g2 T0 wT0 HGA.out eT0).trans (HST.out T0 wT0 eT0).symm
      clear g1 g2 HST wT0 eT0 T0
      have fs := str_self s1
      clear b13
      go_wp2_with fail
      refine (c16 a b Ap Aq cp cq _ RP.out RQ.out).mono ?_
      rintro e w14 ⟨r7, rfl, i7, b14⟩
      replace BB := Lib.hid (next_ BB.out b14)
      replace RA := Lib.hid (RA.out.next b14)
      replace RB := Lib.hid (RB.out.next b14)
      replace HT := Lib.hid (HT.out.next b14)
      replace RP := Lib.hid (RP.out.next b14)
      replace RQ := Lib.hid (RQ.out.next b14)
      replace RN := Lib.hid (RN.out.next b14)
      replace RK := Lib.hid (RK.out.next b14)
      have HI7 := Lib.hid i7
      clear i7
      clear b14
      go_wp2_with fail
      refine (c25 a b Aa Ab ca cb _ RA.out RB.out).mono ?_
      rintro e w15 ⟨r8, rfl, i8, b15⟩
      replace BB := Lib.hid (next_ BB.out b15)
      replace RA := Lib.hid (RA.out.next b15)
      replace RB := Lib.hid (RB.out.next b15)
      replace HT := Lib.hid (HT.out.next b15)
      replace RP := Lib.hid (RP.out.next b15)
      replace RQ := Lib.hid (RQ.out.next b15)
      replace RN := Lib.hid (RN.out.next b15)
      replace RK := Lib.hid (RK.out.next b15)
      obtain rfl : r7 = r8 := Bool.eq_iff_iff.2 (HI7.out.trans i8.symm)
      clear i8 HI7
      have fr : (r7 == r7) = true := beq_self_eq_true r7
      clear fs
      clear b15
      go_wp2_with fail
      refine (c14 a Ap cp _ RP.out HLA.out).mono ?_
      rintro e w16 ⟨rfl, b16⟩
      replace BB := Lib.hid (next_ BB.out b16)
      replace RA := Lib.hid (RA.out.next b16)
      replace RB := Lib.hid (RB.out.next b16)
      replace HT := Lib.hid (HT.out.next b16)
      replace RP := Lib.hid (RP.out.next b16)
      replace RQ := Lib.hid (RQ.out.next b16)
      replace RN := Lib.hid (RN.out.next b16)
      replace RK := Lib.hid (RK.out.next b16)
      have HGS := Lib.hid (c26 a Aa ca _ RA.out HLA.out)
      generalize gSend a = gs at HGS ⊢
      have fg : (gs == gs) = true := beq_self_eq_true gs
      clear b16
      clear fr
      go_wp2_with fail
      refine HGS.out.mono ?_
      rintro e w17 ⟨rfl, b17⟩
      replace BB := Lib.hid (next_ BB.out b17)
      replace RA := Lib.hid (RA.out.next b17)
      replace RB := Lib.hid (RB.out.next b17)
      replace HT := Lib.hid (HT.out.next b17)
      replace RP := Lib.hid (RP.out.next b17)
      replace RQ := Lib.hid (RQ.out.next b17)
      replace RN := Lib.hid (RN.out.next b17)
      replace RK := Lib.hid (RK.out.next b17)
      clear b17 HGS
      go_wp2_with fail
      refine (c18 [] [] none none 0 0 _ (RT.none_ _) (RT.none_ _) (by simp)).mono ?_
      rintro e w18 ⟨rfl, b18⟩
      replace BB := Lib.hid (next_ BB.out b18)
      replace RA := Lib.hid (RA.out.next b18)
      replace RB := Lib.hid (RB.out.next b18)
      replace HT := Lib.hid (HT.out.next b18)
      replace RP := Lib.hid (RP.out.next b18)
      replace RQ := Lib.hid (RQ.out.next b18)
      replace RN := Lib.hid (RN.out.next b18)
      replace RK := Lib.hid (RK.out.next b18)
      first | rw [decide_eq_true rfl] | rw [decide_eq_true trivial]
      clear fg
      clear b18
      go_wp2_with fail
      refine (c18 a a Ap Aa cp ca _ RP.out RA.out HLA.out).mono ?_
      rintro e w19 ⟨rfl, b19⟩
      replace BB := Lib.hid (next_ BB.out b19)
      replace RA := Lib.hid (RA.out.next b19)
      replace RB := Lib.hid (RB.out.next b19)
      replace HT := Lib.hid (HT.out.next b19)
      replace RP := Lib.hid (RP.out.next b19)
      replace RQ := Lib.hid (RQ.out.next b19)
      replace RN := Lib.hid (RN.out.next b19)
      replace RK := Lib.hid (RK.out.next b19)
      first | rw [decide_eq_true rfl] | rw [decide_eq_true trivial]
      clear b19
      go_wp2_with fail
      refine (c18 b b Aq Ab cq cb _ RQ.out RB.out HLB.out).mono ?_
      rintro e w20 ⟨rfl, b20⟩
      replace BB := Lib.hid (next_ BB.out b20)
      replace RA := Lib.hid (RA.out.next b20)
      replace RB := Lib.hid (RB.out.next b20)
      replace HT := Lib.hid (HT.out.next b20)
      replace RP := Lib.hid (RP.out.next b20)
      replace RQ := Lib.hid (RQ.out.next b20)
      replace RN := Lib.hid (RN.out.next b20)
      replace RK := Lib.hid (RK.out.next b20)
      first | rw [decide_eq_true rfl] | rw [decide_eq_true trivial]
      clear b20
      go_wp2_with fail
      refine (c10 _ HT.out).mono ?_
      rintro e wz ⟨rfl, hbz⟩
      go_wp2_with fail
      go_ret
      exact ⟨rfl, next_ BB.out hbz⟩
    | some m =>
      have HML := Lib.hid HM.out.good.2
      have HMP := Lib.hid (show (0 : Int) < (m.length : Int) from by
        obtain ⟨T, _, e, _⟩ := (gTy_iff m).1 HM.out.good.1
        have := T.size_pos
        rw [e, enc_len]
        omega)
      obtain ⟨Am, cm, rfl, rm⟩ := type_back (H41.out m rfl)
      have RM := Lib.hid rm
      rw [show Option.isSome (some m) = true from rfl]
      clear rm H41 H42
      go_wp2_with fail
      refine (c22 a b Aa Ab ca cb _ RA.out RB.out).mono ?_
      rintro e w5 ⟨r5, v5, rfl, hm5, b5, h1, h2⟩
      replace BB := Lib.hid (next_ BB.out b5)
      replace RA := Lib.hid (RA.out.next b5)
      replace RB := Lib.hid (RB.out.next b5)
      replace HT := Lib.hid (HT.out.next b5)
      replace RP := Lib.hid (RP.out.next b5)
      replace RQ := Lib.hid (RQ.out.next b5)
      replace RN := Lib.hid (RN.out.next b5)
      replace RM := Lib.hid (RM.out.next b5)
      obtain rfl := hm5.one HM.out
      obtain ⟨Aw, cw, rfl, rw_⟩ := type_back (h1 m rfl)
      have RW := Lib.hid rw_
      clear rw_ h1 h2 hm5
      clear b5
      go_wp2_with fail
      refine (c9b a Aa ca _ RA.out).mono ?_
      rintro e w6 ⟨rfl, b6⟩
      replace BB := Lib.hid (next_ BB.out b6)
      replace RA := Lib.hid (RA.out.next b6)
      replace RB := Lib.hid (RB.out.next b6)
      replace HT := Lib.hid (HT.out.next b6)
      replace RP := Lib.hid (RP.out.next b6)
      replace RQ := Lib.hid (RQ.out.next b6)
      replace RN := Lib.hid (RN.out.next b6)
      replace RM := Lib.hid (RM.out.next b6)
      replace RW := Lib.hid (RW.out.next b6)
      rw [HGA.out]
      clear b6
      go_wp2_with fail
      refine (c23 a Aa ca _ HGA.out RA.out).mono ?_
      rintro e w7 ⟨v6, rfl, oN, b7⟩
      replace BB := Lib.hid (next_ BB.out b7)
      replace RA := Lib.hid (RA.out.next b7)
      replace RB := Lib.hid (RB.out.next b7)
      replace HT := Lib.hid (HT.out.next b7)
      replace RP := Lib.hid (RP.out.next b7)
      replace RQ := Lib.hid (RQ.out.next b7)
      replace RN := Lib.hid (RN.out.next b7)
      replace RM := Lib.hid (RM.out.next b7)
      replace RW := Lib.hid (RW.out.next b7)
      rw [norm_len] at oN
      obtain ⟨Ak, ck, rfl, rk⟩ := norm_back oN
      have RK := Lib.hid rk
      clear oN rk
      clear b7
      go_wp2_with fail
      refine (c24 a Aa ca _ HGA.out RA.out HXA.out).mono ?_
      rintro e w8 ⟨st, rfl, b8, hst⟩
      replace BB := Lib.hid (next_ BB.out b8)
      replace RA := Lib.hid (RA.out.next b8)
      replace RB := Lib.hid (RB.out.next b8)
      replace HT := Lib.hid (HT.out.next b8)
      replace RP := Lib.hid (RP.out.next b8)
      replace RQ := Lib.hid (RQ.out.next b8)
      replace RN := Lib.hid (RN.out.next b8)
      replace RM := Lib.hid (RM.out.next b8)
      replace RW := Lib.hid (RW.out.next b8)
      replace RK := Lib.hid (RK.out.next b8)
      have HST := Lib.hid hst
      clear hst
      clear b8
      go_wp2_with fail
      refine (c13b a Ap cp _ RP.out).mono ?_
      rintro e w9 ⟨rfl, b9⟩
      replace BB := Lib.hid (next_ BB.out b9)
      replace RA := Lib.hid (RA.out.next b9)
      replace RB := Lib.hid (RB.out.next b9)
      replace HT := Lib.hid (HT.out.next b9)
      replace RP := Lib.hid (RP.out.next b9)
      replace RQ := Lib.hid (RQ.out.next b9)
      replace RN := Lib.hid (RN.out.next b9)
      replace RM := Lib.hid (RM.out.next b9)
      replace RW := Lib.hid (RW.out.next b9)
      replace RK := Lib.hid (RK.out.next b9)
      rw [HGA.out]
      clear b9
      go_wp2_with fail
      refine (c9b a Aa ca _ RA.out).mono ?_
      rintro e w10 ⟨rfl, b10⟩
      replace BB := Lib.hid (next_ BB.out b10)
      replace RA := Lib.hid (RA.out.next b10)
      replace RB := Lib.hid (RB.out.next b10)
      replace HT := Lib.hid (HT.out.next b10)
      replace RP := Lib.hid (RP.out.next b10)
      replace RQ := Lib.hid (RQ.out.next b10)
      replace RN := Lib.hid (RN.out.next b10)
      replace RM := Lib.hid (RM.out.next b10)
      replace RW := Lib.hid (RW.out.next b10)
      replace RK := Lib.hid (RK.out.next b10)
      rw [HGA.out]
      clear b10
      go_wp2_with fail
      refine (c18n a a An Ak cn ck _ RN.out RK.out HLA.out).mono ?_
      rintro e w11 ⟨rfl, b11⟩
      replace BB := Lib.hid (next_ BB.out b11)
      replace RA := Lib.hid (RA.out.next b11)
      replace RB := Lib.hid (RB.out.next b11)
      replace HT := Lib.hid (HT.out.next b11)
      replace RP := Lib.hid (RP.out.next b11)
      replace RQ := Lib.hid (RQ.out.next b11)
      replace RN := Lib.hid (RN.out.next b11)
      replace RM := Lib.hid (RM.out.next b11)
      replace RW := Lib.hid (RW.out.next b11)
      replace RK := Lib.hid (RK.out.next b11)
      first | rw [decide_eq_true rfl] | rw [decide_eq_true trivial]
      clear b11
      go_wp2_with fail
      refine (c9b a Aa ca _ RA.out).mono ?_
      rintro e w12 ⟨rfl, b12⟩
      replace BB := Lib.hid (next_ BB.out b12)
      replace RA := Lib.hid (RA.out.next b12)
      replace RB := Lib.hid (RB.out.next b12)
      replace HT := Lib.hid (HT.out.next b12)
      replace RP := Lib.hid (RP.out.next b12)
      replace RQ := Lib.hid (RQ.out.next b12)
      replace RN := Lib.hid (RN.out.next b12)
      replace RM := Lib.hid (RM.out.next b12)
      replace RW := Lib.hid (RW.out.next b12)
      replace RK := Lib.hid (RK.out.next b12)
      rw [HGA.out]
      clear b12
      go_wp2_with fail
      refine (c15 a Ap cp _ RP.out HXA.out HT.out).mono ?_
      rintro e w13 ⟨s1, rfl, b13, g1, g2⟩
      replace BB := Lib.hid (next_ BB.out b13)
      replace RA := Lib.hid (RA.out.next b13)
      replace RB := Lib.hid (RB.out.next b13)
      replace HT := Lib.hid (HT.out.next b13)
      replace RP := Lib.hid (RP.out.next b13)
      replace RQ := Lib.hid (RQ.out.next b13)
      replace RN := Lib.hid (RN.out.next b13)
      replace RM := Lib.hid (RM.out.next b13)
      replace RW := Lib.hid (RW.out.next b13)
      replace RK := Lib.hid (RK.out.next b13)
      obtain ⟨T0, wT0, eT0⟩ := tree_of HGA.out
      obtain rfl : s1 = st := (g2 T0 wT0 HGA.out eT0).trans (HST.out T0 wT0 eT0).symm
      clear g1 g2 HST wT0 eT0 T0
      have fs := str_self s1
      clear b13
      go_wp2_with fail
      refine (c16 a b Ap Aq cp cq _ RP.out RQ.out).mono ?_
      rintro e w14 ⟨r7, rfl, i7, b14⟩
      replace BB := Lib.hid (next_ BB.out b14)
      replace RA := Lib.hid (RA.out.next b14)
      replace RB := Lib.hid (RB.out.next b14)
      replace HT := Lib.hid (HT.out.next b14)
      replace RP := Lib.hid (RP.out.next b14)
      replace RQ := Lib.hid (RQ.out.next b14)
      replace RN := Lib.hid (RN.out.next b14)
      replace RM := Lib.hid (RM.out.next b14)
      replace RW := Lib.hid (RW.out.next b14)
      replace RK := Lib.hid (RK.out.next b14)
      have HI7 := Lib.hid i7
      clear i7
      clear b14
      go_wp2_with fail
      refine (c25 a b Aa Ab ca cb _ RA.out RB.out).mono ?_
      rintro e w15 ⟨r8, rfl, i8, b15⟩
      replace BB := Lib.hid (next_ BB.out b15)
      replace RA := Lib.hid (RA.out.next b15)
      replace RB := Lib.hid (RB.out.next b15)
      replace HT := Lib.hid (HT.out.next b15)
      replace RP := Lib.hid (RP.out.next b15)
      replace RQ := Lib.hid (RQ.out.next b15)
      replace RN := Lib.hid (RN.out.next b15)
      replace RM := Lib.hid (RM.out.next b15)
      replace RW := Lib.hid (RW.out.next b15)
      replace RK := Lib.hid (RK.out.next b15)
      obtain rfl : r7 = r8 := Bool.eq_iff_iff.2 (HI7.out.trans i8.symm)
      clear i8 HI7
      have fr : (r7 == r7) = true := beq_self_eq_true r7
      clear fs
      clear b15
      go_wp2_with fail
      refine (c14 a Ap cp _ RP.out HLA.out).mono ?_
      rintro e w16 ⟨rfl, b16⟩
      replace BB := Lib.hid (next_ BB.out b16)
      replace RA := Lib.hid (RA.out.next b16)
      replace RB := Lib.hid (RB.out.next b16)
      replace HT := Lib.hid (HT.out.next b16)
      replace RP := Lib.hid (RP.out.next b16)
      replace RQ := Lib.hid (RQ.out.next b16)
      replace RN := Lib.hid (RN.out.next b16)
      replace RM := Lib.hid (RM.out.next b16)
      replace RW := Lib.hid (RW.out.next b16)
      replace RK := Lib.hid (RK.out.next b16)
      have HGS := Lib.hid (c26 a Aa ca _ RA.out HLA.out)
      generalize gSend a = gs at HGS ⊢
      have fg : (gs == gs) = true := beq_self_eq_true gs
      clear b16
      clear fr
      go_wp2_with fail
      refine HGS.out.mono ?_
      rintro e w17 ⟨rfl, b17⟩
      replace BB := Lib.hid (next_ BB.out b17)
      replace RA := Lib.hid (RA.out.next b17)
      replace RB := Lib.hid (RB.out.next b17)
      replace HT := Lib.hid (HT.out.next b17)
      replace RP := Lib.hid (RP.out.next b17)
      replace RQ := Lib.hid (RQ.out.next b17)
      replace RN := Lib.hid (RN.out.next b17)
      replace RM := Lib.hid (RM.out.next b17)
      replace RW := Lib.hid (RW.out.next b17)
      replace RK := Lib.hid (RK.out.next b17)
      clear b17 HGS
      go_wp2_with fail
      refine (c18 m m Am Aw cm cw _ RM.out RW.out HML.out).mono ?_
      rintro e w18 ⟨rfl, b18⟩
      replace BB := Lib.hid (next_ BB.out b18)
      replace RA := Lib.hid (RA.out.next b18)
      replace RB := Lib.hid (RB.out.next b18)
      replace HT := Lib.hid (HT.out.next b18)
      replace RP := Lib.hid (RP.out.next b18)
      replace RQ := Lib.hid (RQ.out.next b18)
      replace RN := Lib.hid (RN.out.next b18)
      replace RM := Lib.hid (RM.out.next b18)
      replace RW := Lib.hid (RW.out.next b18)
      replace RK := Lib.hid (RK.out.next b18)
      first | rw [decide_eq_true rfl] | rw [decide_eq_true trivial]
      clear fg
      clear b18
      have fm : (0 : Int) < (m.length : Int) := HMP.out
      go_wp2_with fail
      refine (c18 a a Ap Aa cp ca _ RP.out RA.out HLA.out).mono ?_
      rintro e w19 ⟨rfl, b19⟩
      replace BB := Lib.hid (next_ BB.out b19)
      replace RA := Lib.hid (RA.out.next b19)
      replace RB := Lib.hid (RB.out.next b19)
      replace HT := Lib.hid (HT.out.next b19)
      replace RP := Lib.hid (RP.out.next b19)
      replace RQ := Lib.hid (RQ.out.next b19)
      replace RN := Lib.hid (RN.out.next b19)
      replace RM := Lib.hid (RM.out.next b19)
      replace RW := Lib.hid (RW.out.next b19)
      replace RK := Lib.hid (RK.out.next b19)
      first | rw [decide_eq_true rfl] | rw [decide_eq_true trivial]
      clear b19
      go_wp2_with fail
      refine (c18 b b Aq Ab cq cb _ RQ.out RB.out HLB.out).mono ?_
      rintro e w20 ⟨rfl, b20⟩
      replace BB := Lib.hid (next_ BB.out b20)
      replace RA := Lib.hid (RA.out.next b20)
      replace RB := Lib.hid (RB.out.next b20)
      replace HT := Lib.hid (HT.out.next b20)
      replace RP := Lib.hid (RP.out.next b20)
      replace RQ := Lib.hid (RQ.out.next b20)
      replace RN := Lib.hid (RN.out.next b20)
      replace RM := Lib.hid (RM.out.next b20)
      replace RW := Lib.hid (RW.out.next b20)
      replace RK := Lib.hid (RK.out.next b20)
      first | rw [decide_eq_true rfl] | rw [decide_eq_true trivial]
      clear b20
      go_wp2_with fail
      refine (c10 _ HT.out).mono ?_
      rintro e wz ⟨rfl, hbz⟩
      go_wp2_with fail
      go_ret
      exact ⟨rfl, next_ BB.out hbz⟩
end Go.Proofs.YtcilodgpbdafeaaDoor
