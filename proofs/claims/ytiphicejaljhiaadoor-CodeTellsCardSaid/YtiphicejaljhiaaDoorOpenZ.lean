/- An argument that is a program, opened, and what the reach says of its rows. -/
import Derived.Test.YtiphicejaljhiaaDoorOpen
import Derived.Test.YtiphicejaljhiaaDoorSiz
import Derived.SizedLaws
namespace Go.Proofs.YtiphicejaljhiaaDoor
open Go.ChangeShapes Go.WideShapes Go.ChangeAt Go.RowKit Go.Deep
section
variable {H : Type} {enc : TypeId × Value → H} {w : World}
theorem weights_slice {P : Program} {t e : TypeId} {a b : List (DataW H)} (ht : P.underlying t = some (.slice e)) : DataW.weights P t (.slice a b) = (a.length + b.length) * P.bytesOf e :: (DataW.weightsAll P e a ++ DataW.weightsAll P e b) := by
  rw [DataW.weights, ht]
theorem mem_all {P : Program} {e : TypeId} {n : Nat} : ∀ {l : List (DataW H)} {d : DataW H}, d ∈ l → n ∈ d.weights P e → n ∈ DataW.weightsAll P e l
  | d0 :: l, d, hd, hn => by
    rw [DataW.weightsAll, List.mem_append]
    rcases List.mem_cons.1 hd with rfl | hd
    · exact .inl hn
    · exact .inr (mem_all hd hn)
theorem slice_sized {t e : TypeId} (ht : Tryd.prog.underlying t = some (.slice e)) {n : Nat} {v : Value} {y : DataW H × List MemPlace} (h : DataW.trod enc Tryd.prog w 0 (fun _ => true) true n t [v] = some y)
    (hw : ∀ m ∈ y.1.weights Tryd.prog t, m ≤ reachBytes) {A : Option Addr} {k c : Nat} (hv : v = .slice A k c) : k * Tryd.prog.bytesOf e ≤ reachBytes := by
  rcases open_slice ht h with ⟨hc, _⟩ | ⟨a, len, cap, m, k', D, Pl, hc, hb, hl, hm, hmm, rfl, hx⟩
  · rw [hv] at hc
    obtain ⟨_, hk, _⟩ := Value.slice.inj (List.cons.inj hc).1
    rw [hk, Nat.zero_mul]
    exact Nat.zero_le _
  · rw [hv] at hc
    obtain ⟨_, hk, _⟩ := Value.slice.inj (List.cons.inj hc).1
    rw [weights_slice ht] at hw
    have h1 := hw _ (List.mem_cons_self ..)
    simp only [List.length_map, List.length_range] at h1
    rw [hk]
    exact Nat.le_trans (Nat.mul_le_mul_right _ (Nat.le_add_right _ _)) h1
theorem mem_parts {P : Program} {t : TypeId} {fs : Array Field} (hs : P.underlying t = some (.struct fs)) {ys : List (DataW H × List MemPlace)} {j : Nat} {f : Field} {y : DataW H × List MemPlace} (hf : fs[j]? = some f) (hy : ys[j]? = some y)
    {m : Nat} (hm : m ∈ y.1.weights P f.type) : m ∈ DataW.weights P t (.agg (ys.map (·.1))) := by
  rw [DataW.weights, hs]
  refine DataW.weights_mem_each (j := j) (t := f.type) (d := y.1) ?_ ?_ m hm
  · rw [List.getElem?_map, Array.getElem?_toList, hf]; rfl
  · rw [List.getElem?_map, hy]; rfl
theorem fns_sized {n : Nat} {v : Value} {y : DataW H × List MemPlace} (h : DataW.trod enc Tryd.prog w 0 (fun _ => true) true n 38 [v] = some y) (hw : ∀ m ∈ y.1.weights Tryd.prog 38, m ≤ reachBytes)
    {A : Option Addr} {L : List Fnv} {c : Nat} (hv : v = .slice A L.length c) (hr : Reads w w.heap.size 3 A L.length (L.flatMap Fnv.cells)) : L.length ≤ 17592186044416 ∧ ∀ x ∈ L, x.fn.code.length ≤ 17592186044416 := by
  refine ⟨?_, fun x hx => ?_⟩
  · have h1 := slice_sized Tryd.underlying38 h hw hv
    rw [show Tryd.prog.bytesOf 60 = 40 by kernel_rfl] at h1
    unfold reachBytes at h1
    omega
  · obtain ⟨i, hi⟩ := List.getElem?_of_mem hx
    have hil := (List.getElem?_eq_some_iff.1 hi).1
    obtain ⟨ad, rfl, _, hcs⟩ := Reads.rowAt (f := Fnv.cells) (m := 3) (fun _ => rfl) hr (by decide) hi
    have hcell := hcs 2 _ rfl
    rcases open_slice_fields Tryd.underlying38 Tryd.underlying60 (by kernel_rfl) (by kernel_rfl) h with ⟨hc, _⟩ | ⟨a, len, cap, m, D, Pl, hc, hb, hl, hm, hmm, rfl, hx2⟩
    · rw [hv] at hc
      obtain ⟨hk, _, _⟩ := Value.slice.inj (List.cons.inj hc).1
      cases hk
    · rw [hv] at hc
      obtain ⟨hk, hlen, _⟩ := Value.slice.inj (List.cons.inj hc).1
      obtain rfl := Option.some.inj hk
      simp at hmm
      obtain ⟨ys, k, hD, _, _, hf⟩ := hx2 i (by omega)
      obtain ⟨v2, y2, c2, hy2, t2⟩ := hf 2 _ rfl
      have h3 : i * 3 + 2 = i * 3 + 2 := rfl
      rw [add_of_add] at hcell
      have hv2 : v2 = .slice x.ad x.fn.code.length x.cap := Option.some.inj (c2.symm.trans hcell)
      have h1 := slice_sized Tryd.underlying58 t2 (fun m hm => hw m (by
        rw [weights_slice Tryd.underlying38]
        refine List.mem_cons_of_mem _ (List.mem_append_left _ (mem_all (d := D i) (List.mem_map.2 ⟨i, List.mem_range.2 (by omega), rfl⟩) ?_))
        rw [hD]
        exact mem_parts Tryd.underlying60 (j := 2) rfl hy2 hm)) hv2
      rw [show Tryd.prog.bytesOf 23 = 24 by kernel_rfl] at h1
      unfold reachBytes at h1
      omega
theorem fms_sized {n : Nat} {v : Value} {y : DataW H × List MemPlace} (h : DataW.trod enc Tryd.prog w 0 (fun _ => true) true n 40 [v] = some y) (hw : ∀ m ∈ y.1.weights Tryd.prog 40, m ≤ reachBytes)
    {A : Option Addr} {L : List Fmv} {c : Nat} (hv : v = .slice A L.length c) (hr : Reads w w.heap.size 4 A L.length (L.flatMap Fmv.cells)) : L.length ≤ 17592186044416 ∧ ∀ x ∈ L, x.fm.cons.length ≤ 17592186044416 := by
  refine ⟨?_, fun x hx => ?_⟩
  · have h1 := slice_sized Tryd.underlying40 h hw hv
    rw [show Tryd.prog.bytesOf 63 = 48 by kernel_rfl] at h1
    unfold reachBytes at h1
    omega
  · obtain ⟨i, hi⟩ := List.getElem?_of_mem hx
    have hil := (List.getElem?_eq_some_iff.1 hi).1
    obtain ⟨ad, rfl, _, hcs⟩ := Reads.rowAt (f := Fmv.cells) (m := 4) (fun _ => rfl) hr (by decide) hi
    have hcell := hcs 3 _ rfl
    rcases open_slice_fields Tryd.underlying40 Tryd.underlying63 (by kernel_rfl) (by kernel_rfl) h with ⟨hc, _⟩ | ⟨a, len, cap, m, D, Pl, hc, hb, hl, hm, hmm, rfl, hx2⟩
    · rw [hv] at hc
      obtain ⟨hk, _, _⟩ := Value.slice.inj (List.cons.inj hc).1
      cases hk
    · rw [hv] at hc
      obtain ⟨hk, hlen, _⟩ := Value.slice.inj (List.cons.inj hc).1
      obtain rfl := Option.some.inj hk
      simp at hmm
      obtain ⟨ys, k, hD, _, _, hf⟩ := hx2 i (by omega)
      obtain ⟨v2, y2, c2, hy2, t2⟩ := hf 3 _ rfl
      rw [add_of_add] at hcell
      have hv2 : v2 = .slice x.ad x.fm.cons.length x.cap := Option.some.inj (c2.symm.trans hcell)
      have h1 := slice_sized Tryd.underlying61 t2 (fun m hm => hw m (by
        rw [weights_slice Tryd.underlying40]
        refine List.mem_cons_of_mem _ (List.mem_append_left _ (mem_all (d := D i) (List.mem_map.2 ⟨i, List.mem_range.2 (by omega), rfl⟩) ?_))
        rw [hD]
        exact mem_parts Tryd.underlying63 (j := 3) rfl hy2 hm)) hv2
      rw [show Tryd.prog.bytesOf 3 = 8 by kernel_rfl] at h1
      unfold reachBytes at h1
      omega
set_option maxRecDepth 100000 in
/-- A PROGRAM THAT COMES IN, and how long its rows are. -/
theorem open_prZ {r : Reach} {b0 : Nat} {v : Value} {d : DataW H} {p : List MemPlace} (hval : Value.okWide Tryd.prog w r b0 42 v) (h : DataW.Trod enc Tryd.prog w 0 (fun _ => true) true 42 v d p)
    (hw : ∀ m ∈ d.weights Tryd.prog 42, m ≤ reachBytes) : ∃ q : PrMem, v = q.val ∧ PrOk w w.heap.size q ∧ SizedP q := by
  obtain ⟨v0, v1, v2, y0, y1, y2, n, rfl, rfl, _, t0, t1, t2⟩ := Joins.open_agg3 Tryd.underlying42 (by kernel_rfl) (by kernel_rfl) hval h
  obtain ⟨AF, L, cF, e0, h1, h2, l1⟩ := open_fns t0
  obtain ⟨AS, S, cS, e1, h3, l2⟩ := open_texts t1
  obtain ⟨AM, M, cM, e2, h4, h5, l3⟩ := open_fms t2
  have k0 : ∀ m ∈ y0.1.weights Tryd.prog 38, m ≤ reachBytes := fun m hm => hw m (mem_parts Tryd.underlying42 (ys := [y0, y1, y2]) (j := 0) rfl rfl hm)
  have k1 : ∀ m ∈ y1.1.weights Tryd.prog 39, m ≤ reachBytes := fun m hm => hw m (mem_parts Tryd.underlying42 (ys := [y0, y1, y2]) (j := 1) rfl rfl hm)
  have k2 : ∀ m ∈ y2.1.weights Tryd.prog 40, m ≤ reachBytes := fun m hm => hw m (mem_parts Tryd.underlying42 (ys := [y0, y1, y2]) (j := 2) rfl rfl hm)
  obtain ⟨s0, s1⟩ := fns_sized t0 k0 e0 h1
  obtain ⟨s2, s3⟩ := fms_sized t2 k2 e2 h4
  have s4 := slice_sized Tryd.underlying39 t1 k1 e1
  rw [show Tryd.prog.bytesOf 9 = 16 by kernel_rfl] at s4
  unfold reachBytes at s4
  subst e0 e1 e2
  exact ⟨⟨AF, cF, L, AS, cS, S, AM, cM, M⟩, rfl, ⟨h1, h2, h3, h4, h5, l1, l2, l3⟩, s0, by simp only; omega, s2, s1, s3⟩
end
end Go.Proofs.YtiphicejaljhiaaDoor
