/- The plain law of VerifyMore: a right program with a function, a text, a form more is right; one that falls off its end is not. No walk. -/
import Derived.Test.YtiphicejaljhiaaDoorVChk
namespace Go.Proofs.YtiphicejaljhiaaDoor
open Go.ChangeShapes Go.WideShapes Go.ChangeAt Go.RowKit
def fR : Fn := ⟨1, 0, [⟨2, 0, 0⟩, ⟨9, 0, 0⟩]⟩
def fO : Fn := ⟨1, 0, [⟨2, 0, 0⟩]⟩
def sM : List UInt8 := [109, 111, 114, 101]
def mM : Fm := ⟨1, 0, 0, []⟩
def moreR (p : Pr) : Pr := ⟨p.funcs ++ [fR], p.strs ++ [sM], p.forms ++ [mM]⟩
def moreO (p : Pr) : Pr := ⟨p.funcs ++ [fO], p.strs, p.forms⟩
theorem names_o (q : Pr) : fO.code.all (vNames q fO) = true := rfl
theorem names_r (q : Pr) : fR.code.all (vNames q fR) = true := rfl
theorem states_o (q : Pr) : vStates q fO = none := by
  unfold vStates
  rw [if_pos (names_o q)]
  rfl
theorem states_r (q : Pr) : (vStates q fR).isSome = true := by
  unfold vStates
  rw [if_pos (names_r q)]
  rfl
theorem check_o (p : Pr) : gCheck (moreO p) 15 = 2 := by
  unfold gCheck
  rw [if_neg]
  unfold gRight moreO
  rw [List.all_append]
  simp only [List.all_cons, List.all_nil, states_o, Option.isSome_none, Bool.false_and, Bool.and_false]
  decide
theorem gFns_app : ∀ (l : List Fn) (b : Bool) (x : Fn), l ≠ [] → gFns b l = true → gFn x false = true → gFns b (l ++ [x]) = true
  | [f], b, x, _, h, hx => by
    simp only [gFns, List.cons_append, List.nil_append, Bool.and_true] at h ⊢
    rw [h, hx]; rfl
  | f :: g :: l, b, x, _, h, hx => by
    rw [List.cons_append]
    simp only [gFns, Bool.and_eq_true] at h
    rw [gFns, h.1, Bool.true_and]
    refine gFns_app (g :: l) false x (by simp) ?_ hx
    simp only [gFns, Bool.and_eq_true]
    exact h.2
theorem gFm_up {f : Fm} {n : Int} (h : gFm f n = true) : gFm f (n + 1) = true := by
  unfold gFm at h ⊢
  simp only [Bool.and_eq_true, betw_iff, List.all_eq_true] at h ⊢
  obtain ⟨h1, h2, h3, h4, h5⟩ := h
  refine ⟨fun c hc => ⟨(h1 c hc).1, by have := (h1 c hc).2; omega⟩, h2, ⟨h3.1, ?_⟩, ⟨h4.1, ?_⟩, h5⟩
  · have := h3.2
    split at this <;> rename_i hh
    · rw [if_pos hh]; omega
    · rw [if_neg hh]; exact this
  · have := h4.2
    split at this <;> rename_i hh
    · rw [if_pos hh]; omega
    · rw [if_neg hh]; exact this
theorem good_more {p : Pr} (h : gPr p = true) (h1 : p.funcs.length < 60) (h2 : p.strs.length < 40) (h3 : p.forms.length < 40) : gPr (moreR p) = true := by
  unfold gPr at h ⊢
  simp only [Bool.and_eq_true, betw_iff, decide_eq_true_eq, List.all_eq_true] at h
  obtain ⟨⟨hf, hs, hm⟩, g1, g2, g3⟩ := h
  simp only [moreR, Bool.and_eq_true, betw_iff, decide_eq_true_eq, List.all_eq_true, List.length_append, List.length_cons, List.length_nil]
  refine ⟨⟨by omega, by omega, by omega⟩, gFns_app _ _ _ (by intro e; rw [e] at hf; simp at hf) g1 (by decide +kernel), fun s hs => ?_, fun f hf => ?_⟩
  · rcases List.mem_append.1 hs with hs | hs
    · exact g2 s hs
    · rw [List.mem_singleton.1 hs]; decide
  · have hn : ((p.forms.length + (0 + 1) : Nat) : Int) = (p.forms.length : Int) + 1 := by omega
    rw [hn]
    rcases List.mem_append.1 hf with hf | hf
    · exact gFm_up (g3 f hf)
    · rw [List.mem_singleton.1 hf]
      unfold gFm mM
      simp only [Bool.and_eq_true, betw_iff, List.all_nil]
      refine ⟨trivial, ⟨by omega, by omega⟩, ⟨by omega, ?_⟩, ⟨by omega, ?_⟩, ?_, ?_⟩ <;> simp
theorem names_more {p : Pr} {f : Fn} {i : Ins} (hp : 0 < p.funcs.length) (h : vNames p f i = true) : vNames (moreR p) f i = true := by
  unfold vNames at h ⊢
  simp only [moreR, List.length_append, List.length_cons, List.length_nil]
  split at h
  · rename_i h1; rw [if_pos h1]; exact h
  rename_i h1
  rw [if_neg h1]
  split at h
  · rename_i h1; rw [if_pos h1]; exact h
  rename_i h1
  rw [if_neg h1]
  split at h
  · rename_i h1; rw [if_pos h1]; have := of_decide_eq_true h; exact decide_eq_true (by omega)
  rename_i h1
  rw [if_neg h1]
  split at h
  · rename_i h1; rw [if_pos h1]; exact h
  rename_i h1
  rw [if_neg h1]
  split at h
  · rename_i h1
    rw [if_pos h1]
    rw [Bool.and_eq_true] at h
    have ha := of_decide_eq_true h.1
    have hb := of_decide_eq_true h.2
    have hc : (p.funcs ++ [fR]).getD i.a.toNat ⟨0, 0, []⟩ = p.funcs.getD i.a.toNat ⟨0, 0, []⟩ := by
      rw [List.getD_eq_getElem?_getD, List.getD_eq_getElem?_getD, List.getElem?_append_left (by omega)]
    rw [Bool.and_eq_true]
    exact ⟨decide_eq_true (by omega), decide_eq_true (by rw [hb]; show _ = ((p.funcs ++ [fR]).getD i.a.toNat ⟨0, 0, []⟩).free; rw [hc])⟩
  rename_i h1
  rw [if_neg h1]
  split at h
  · rename_i h1
    rw [if_pos h1]
    simp only [Bool.or_eq_true, decide_eq_true_eq] at h ⊢
    omega
  · rename_i h1; rw [if_neg h1]
theorem states_more {p : Pr} {f : Fn} (hp : 0 < p.funcs.length) (h : (vStates p f).isSome = true) : (vStates (moreR p) f).isSome = true := by
  unfold vStates at h ⊢
  split at h
  · rename_i hn
    rw [if_pos]
    · exact h
    · rw [List.all_eq_true] at hn ⊢
      exact fun i hi => names_more hp (hn i hi)
  · cases h
theorem right_more {p : Pr} (h : gRight p = true) (h1 : p.funcs.length < 60) (h2 : p.strs.length < 40) (h3 : p.forms.length < 40) : gRight (moreR p) = true := by
  unfold gRight at h ⊢
  rw [Bool.and_eq_true, List.all_eq_true] at h
  obtain ⟨hg, ha⟩ := h
  have hp := (gPr_sizes hg).1
  rw [Bool.and_eq_true, List.all_eq_true]
  refine ⟨good_more hg h1 h2 h3, fun f hf => ?_⟩
  rcases List.mem_append.1 hf with hf | hf
  · exact states_more (by omega) (ha f hf)
  · rw [List.mem_singleton.1 hf]
    exact states_r _
theorem right_good {p : Pr} (h : gRight p = true) : gPr p = true := by
  unfold gRight at h
  rw [Bool.and_eq_true] at h
  exact h.1
theorem calls_more {p : Pr} (h : gPr p = true) (h' : gPr (moreR p) = true) : gCalls (moreR p) = gCalls p := by
  unfold gCalls
  rw [if_pos h, if_pos h']
  unfold gBits moreR
  rw [List.foldl_append]
  simp only [List.foldl_cons, List.foldl_nil]
  generalize List.foldl gOrs 0 p.funcs = b
  rfl
theorem check_ok {p : Pr} {g : Int} (h : gCheck p g = 0) : gRight p = true ∧ gDen p g = 0 := by
  unfold gCheck at h
  split at h
  · rename_i hr
    refine ⟨hr, ?_⟩
    split at h
    · assumption
    · cases h
  · cases h
theorem check_of {p : Pr} {g : Int} (hr : gRight p = true) (hd : gDen p g = 0) : gCheck p g = 0 := by
  unfold gCheck
  rw [if_pos hr, if_pos hd]
theorem check_cases (p : Pr) (g : Int) : gCheck p g = 0 ∨ gCheck p g = 2 ∨ gCheck p g = 18 := by
  unfold gCheck
  split
  · split
    · exact .inl rfl
    · exact .inr (.inr rfl)
  · exact .inr (.inl rfl)
theorem check_more {p : Pr} {g : Int} (h : gCheck p g = 0) (h1 : p.funcs.length < 60) (h2 : p.strs.length < 40) (h3 : p.forms.length < 40) : gCheck (moreR p) g = 0 := by
  obtain ⟨hr, hd⟩ := check_ok h
  have hr' := right_more hr h1 h2 h3
  refine check_of hr' ?_
  unfold gDen at hd ⊢
  rw [calls_more (right_good hr) (right_good hr')]
  exact hd
theorem i64_wrap0 {n : Nat} (hn : n < 18446744073709551616) (h : IntKind.i64.wrap (n : Int) = 0) : n = 0 := by
  have : wrap64 (n : Int) = 0 := by rw [← IntWalk.i64_left]; exact h
  unfold wrap64 at this
  omega
theorem ofInt_wrap (n : Int) : BitVec.ofInt 64 (IntKind.i64.wrap n) = BitVec.ofInt 64 n := by
  refine BitVec.eq_of_toNat_eq ?_
  rw [BitVec.toNat_ofInt, BitVec.toNat_ofInt]
  have : IntKind.i64.wrap n = wrap64 n := IntWalk.i64_left n
  rw [this]
  unfold wrap64
  congr 1
  show (_ - _) % (18446744073709551616 : Int) = n % (18446744073709551616 : Int)
  omega
theorem andNot_or {x g : Int} (h : bits .andNot .i64 x g = 0) : bits .andNot .i64 x (bits .or .i64 15 g) = 0 := by
  have hb : IntKind.i64.bits = 64 := rfl
  have h0 : IntKind.i64.wrap (((BitVec.ofInt 64 x &&& ~~~BitVec.ofInt 64 g).toNat : Nat) : Int) = 0 := h
  have h1 := i64_wrap0 (BitVec.isLt _) h0
  have h2 : BitVec.ofInt 64 x &&& ~~~BitVec.ofInt 64 g = 0#64 := BitVec.eq_of_toNat_eq h1
  have h3 : BitVec.ofInt 64 (bits .or .i64 15 g) = BitVec.ofInt 64 15 ||| BitVec.ofInt 64 g := by
    show BitVec.ofInt 64 (IntKind.i64.wrap (((BitVec.ofInt 64 15 ||| BitVec.ofInt 64 g).toNat : Nat) : Int)) = _
    rw [ofInt_wrap, BitVec.ofInt_natCast, BitVec.ofNat_toNat, BitVec.setWidth_eq]
  show IntKind.i64.wrap (((BitVec.ofInt 64 x &&& ~~~BitVec.ofInt 64 (bits .or .i64 15 g)).toNat : Nat) : Int) = 0
  rw [h3]
  have h4 : BitVec.ofInt 64 x &&& ~~~(BitVec.ofInt 64 15 ||| BitVec.ofInt 64 g) = 0#64 := by
    have : BitVec.ofInt 64 x &&& ~~~(BitVec.ofInt 64 15 ||| BitVec.ofInt 64 g) = (BitVec.ofInt 64 x &&& ~~~BitVec.ofInt 64 g) &&& ~~~BitVec.ofInt 64 15 := by
      generalize BitVec.ofInt 64 x = a
      generalize BitVec.ofInt 64 g = b
      generalize BitVec.ofInt 64 15 = c
      ext i hi
      simp only [BitVec.getElem_and, BitVec.getElem_not, BitVec.getElem_or]
      cases a[i] <;> cases b[i] <;> cases c[i] <;> rfl
    rw [this, h2, BitVec.zero_and]
  rw [h4]
  rfl
theorem check_15 {p : Pr} {g : Int} (h : gCheck p g = 0) : gCheck p (bits .or .i64 15 g) = 0 := by
  obtain ⟨hr, hd⟩ := check_ok h
  exact check_of hr (andNot_or hd)
end Go.Proofs.YtiphicejaljhiaaDoor
