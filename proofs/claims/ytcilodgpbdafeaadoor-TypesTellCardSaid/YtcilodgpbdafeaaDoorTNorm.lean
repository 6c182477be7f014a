/- Types as data: the normal one, the text. -/
import Derived.Test.YtcilodgpbdafeaaDoorTMat
namespace Go.Proofs.YtcilodgpbdafeaaDoor
set_option linter.unusedVariables false
set_option linter.unusedSimpArgs false
/-- The variables' numbers, as they come. -/
def nums : List Part → List Int → List Int
  | [], N => N
  | p :: l, N => nums l (if p.k = 11 ∧ p.n ∉ N then N ++ [p.n] else N)
def ren (N : List Int) (p : Part) : Part := if p.k = 11 then { p with n := (N.idxOf p.n : Nat) } else p
def norm (l : List Part) : List Part := l.map (ren (nums l []))
theorem nums_append (l l' : List Part) : ∀ N, nums (l ++ l') N = nums l' (nums l N) := by
  induction l with
  | nil => intro N; rfl
  | cons p l ih => intro N; exact ih _
theorem nums_sub (l : List Part) : ∀ (N : List Int) (x : Int), x ∈ N → x ∈ nums l N := by
  induction l with
  | nil => intro N x h; exact h
  | cons p l ih =>
    intro N x h
    refine ih _ x ?_
    split
    · exact List.mem_append_left _ h
    · exact h
theorem nums_pre (l : List Part) : ∀ (N : List Int), ∃ M, nums l N = N ++ M := by
  induction l with
  | nil => intro N; exact ⟨[], by simp [nums]⟩
  | cons p l ih =>
    intro N
    show ∃ M, nums l (if p.k = 11 ∧ p.n ∉ N then N ++ [p.n] else N) = N ++ M
    split
    · obtain ⟨M, h⟩ := ih (N ++ [p.n]); exact ⟨p.n :: M, by rw [h]; simp⟩
    · exact ih N
theorem nums_mem (l : List Part) : ∀ (N : List Int) (p : Part), p ∈ l → p.k = 11 → p.n ∈ nums l N := by
  induction l with
  | nil => intro N p h; cases h
  | cons q l ih =>
    intro N p h hk
    show p.n ∈ nums l _
    rcases List.mem_cons.1 h with rfl | h
    · refine nums_sub l _ _ ?_
      split
      · simp
      · rename_i hn
        by_cases hm : p.n ∈ N
        · exact hm
        · exact absurd ⟨hk, hm⟩ hn
    · exact ih _ p h hk
theorem nums_nodup (l : List Part) : ∀ (N : List Int), N.Nodup → (nums l N).Nodup := by
  induction l with
  | nil => intro N h; exact h
  | cons p l ih =>
    intro N h
    refine ih _ ?_
    split
    · rename_i hp
      rw [List.nodup_append]
      refine ⟨h, by simp, fun a ha b hb => ?_⟩
      rw [List.mem_singleton] at hb
      subst hb
      rintro rfl
      exact hp.2 ha
    · exact h
theorem nums_nonneg (l : List Part) : ∀ (N : List Int), (∀ x ∈ N, 0 ≤ x) → (∀ p ∈ l, 0 ≤ p.n) → ∀ x ∈ nums l N, 0 ≤ x := by
  induction l with
  | nil => intro N h _; exact h
  | cons p l ih =>
    intro N h hl
    refine ih _ ?_ fun q hq => hl q (List.mem_cons_of_mem _ hq)
    split
    · intro x hx
      rcases List.mem_append.1 hx with hx | hx
      · exact h x hx
      · rw [List.mem_singleton] at hx; rw [hx]; exact hl p (List.mem_cons_self ..)
    · exact h
theorem nums_len (l : List Part) : ∀ (N : List Int), (nums l N).length ≤ N.length + l.length := by
  induction l with
  | nil => intro N; exact Nat.le_refl _
  | cons p l ih =>
    intro N
    have h := ih (if p.k = 11 ∧ p.n ∉ N then N ++ [p.n] else N)
    show (nums l _).length ≤ _
    refine Nat.le_trans h ?_
    split
    · simp only [List.length_append, List.length_cons, List.length_nil]; omega
    · simp only [List.length_cons]; omega
theorem idx_pre {N M : List Int} {x : Int} (h : x ∈ N) : (N ++ M).idxOf x = N.idxOf x := by rw [List.idxOf_append, if_pos h]
/-- The numbers that come later turn nothing ahead. -/
theorem ren_pre (l : List Part) (N M : List Int) (p : Part) (h : p.k = 11 → p.n ∈ N) : ren (N ++ M) p = ren N p := by
  unfold ren
  split
  · rename_i hk; rw [idx_pre (h hk)]
  · rfl
theorem norm_take (l : List Part) (i : Nat) : (norm l).take i = (l.take i).map (ren (nums (l.take i) [])) := by
  unfold norm
  rw [← List.map_take]
  refine List.map_congr_left fun p hp => ?_
  obtain ⟨M, hM⟩ := nums_pre (l.drop i) (nums (l.take i) [])
  have e : nums l [] = nums (l.take i) [] ++ M := by
    rw [← hM, ← nums_append, List.take_append_drop]
  rw [e]
  exact ren_pre l _ _ _ fun hk => nums_mem _ _ p hp hk
theorem norm_len (l : List Part) : (norm l).length = l.length := List.length_map ..
/-- A tree with its variables' numbers turned. -/
def renT (N : List Int) : Ty → Ty := sub fun n => .var (N.idxOf n : Nat)
theorem renT_size (N : List Int) (T : Ty) : (renT N T).size = T.size := by
  induction T with
  | leaf k t => rfl
  | var n => rfl
  | one k s ih => show (renT N s).size + 1 = _; rw [ih]; rfl
  | two k s u ih1 ih2 => show (renT N s).size + (renT N u).size + 1 = _; rw [ih1, ih2]; rfl
theorem renT_wf (N : List Int) (T : Ty) (h : T.wf) : (renT N T).wf := by
  induction T with
  | leaf k t => exact h
  | var n => exact Int.natCast_nonneg _
  | one k s ih => exact ⟨h.1, ih h.2⟩
  | two k s u ih1 ih2 => exact ⟨h.1, ih1 h.2.1, ih2 h.2.2⟩
theorem enc_renT (N : List Int) (T : Ty) : ∀ o, T.wf → enc o (renT N T) = (enc o T).map (ren N) := by
  induction T with
  | leaf k t =>
    intro o h
    show [_] = [_]
    unfold ren
    rw [if_neg (by simp only [Ty.wf] at h; simp only; omega)]
  | var n => intro o _; rfl
  | one k s ih =>
    intro o h
    show enc o (renT N s) ++ [⟨k, ((o + (renT N s).size - 1 : Nat) : Int), 0, 0, []⟩] = (enc o s ++ [_]).map _
    rw [List.map_append, ih o h.2, renT_size]
    congr 1
    show [_] = [ren N _]
    unfold ren
    rw [if_neg (by have := h.1; simp only; omega)]
  | two k s u ih1 ih2 =>
    intro o h
    show enc o (renT N s) ++ enc (o + (renT N s).size) (renT N u) ++ [⟨k, ((o + (renT N s).size - 1 : Nat) : Int), ((o + (renT N s).size + (renT N u).size - 1 : Nat) : Int), 0, []⟩] = (enc o s ++ enc (o + s.size) u ++ [_]).map _
    rw [List.map_append, List.map_append, renT_size, renT_size, ih1 o h.2.1, ih2 _ h.2.2]
    congr 1
    show [_] = [ren N _]
    unfold ren
    rw [if_neg (by have := h.1; simp only; omega)]
theorem norm_enc {T : Ty} (h : T.wf) : norm (enc 0 T) = enc 0 (renT (nums (enc 0 T) []) T) := (enc_renT _ T 0 h).symm
theorem norm_good {l : List Part} (h : gTy l = true) : gTy (norm l) = true := by
  obtain ⟨T, hw, rfl, hs⟩ := (gTy_iff l).1 h
  rw [norm_enc hw]
  exact (gTy_iff _).2 ⟨_, renT_wf _ T hw, rfl, by rw [renT_size]; exact hs⟩
/-- The variables of a tree's parts. -/
theorem renT_back (T : Ty) : ∀ (o : Nat) (N : List Int), (∀ p ∈ enc o T, p.k = 11 → p.n ∈ N) → sub (fun m => .var (N.getD m.toNat 0)) (renT N T) = T := by
  induction T with
  | leaf k t => intro o N _; rfl
  | var n =>
    intro o N h
    have hn : n ∈ N := h ⟨11, 0, 0, n, []⟩ (List.mem_singleton.2 rfl) rfl
    show Ty.var (N.getD ((N.idxOf n : Nat) : Int).toNat 0) = _
    rw [Int.toNat_natCast, List.getD_eq_getElem?_getD, List.getElem?_eq_getElem (List.idxOf_lt_length_of_mem hn)]
    show Ty.var (N[N.idxOf n]'_) = _
    rw [List.getElem_idxOf]
  | one k s ih =>
    intro o N h
    show Ty.one k (sub _ (renT N s)) = _
    rw [ih o N fun p hp => h p (List.mem_append_left _ hp)]
  | two k s u ih1 ih2 =>
    intro o N h
    show Ty.two k (sub _ (renT N s)) (sub _ (renT N u)) = _
    rw [ih1 o N fun p hp => h p (List.mem_append_left _ (List.mem_append_left _ hp)), ih2 _ N fun p hp => h p (List.mem_append_left _ (List.mem_append_right _ hp))]
theorem inst_norm {l : List Part} (h : gTy l = true) : Inst l (norm l) := by
  obtain ⟨T, hw, rfl, hs⟩ := (gTy_iff l).1 h
  exact ⟨T, _, hw, renT_wf _ T hw, hs, by rw [renT_size]; exact hs, rfl, norm_enc hw, _, rfl⟩
theorem norm_inst {l : List Part} (h : gTy l = true) : Inst (norm l) l := by
  obtain ⟨T, hw, rfl, hs⟩ := (gTy_iff l).1 h
  exact ⟨_, T, renT_wf _ T hw, hw, by rw [renT_size]; exact hs, hs, norm_enc hw, rfl, _, renT_back T 0 _ fun p hp hk => nums_mem _ _ p hp hk⟩
theorem range_snoc (n : Nat) : (List.range (n + 1)).map (fun i : Nat => (i : Int)) = (List.range n).map (fun i : Nat => (i : Int)) ++ [(n : Int)] := by
  rw [List.range_succ, List.map_append]; rfl
/-- The numbers of a list whose variables' numbers were turned. -/
theorem nums_ren (l : List Part) : ∀ (K M : List Int), nums (l.map (ren (nums l K ++ M))) ((List.range K.length).map (fun i : Nat => (i : Int))) = (List.range (nums l K).length).map (fun i : Nat => (i : Int)) := by
  induction l with
  | nil => intro K M; rfl
  | cons p l ih =>
    intro K M
    obtain ⟨M0, hM0⟩ := nums_pre (p :: l) K
    have hkk : ∀ N, (ren N p).k = p.k := fun N => by unfold ren; split <;> rfl
    show nums (l.map _) (if (ren (nums (p :: l) K ++ M) p).k = 11 ∧ _ then _ else _) = _
    rw [hkk]
    by_cases hk : p.k = 11
    · have hrn : (ren (nums (p :: l) K ++ M) p).n = (((nums (p :: l) K ++ M).idxOf p.n : Nat) : Int) := by unfold ren; rw [if_pos hk]
      by_cases hin : p.n ∈ K
      · have e : nums (p :: l) K = nums l K := by
          show nums l (if p.k = 11 ∧ p.n ∉ K then _ else _) = _
          rw [if_neg (fun h => h.2 hin)]
        rw [if_neg]
        · rw [e]; exact ih K M
        · rintro ⟨_, h⟩
          apply h
          rw [hrn, hM0, List.append_assoc, idx_pre hin]
          exact List.mem_map.2 ⟨K.idxOf p.n, List.mem_range.2 (List.idxOf_lt_length_of_mem hin), rfl⟩
      · have e : nums (p :: l) K = nums l (K ++ [p.n]) := by
          show nums l (if p.k = 11 ∧ p.n ∉ K then _ else _) = _
          rw [if_pos ⟨hk, hin⟩]
        obtain ⟨M1, hM1⟩ := nums_pre l (K ++ [p.n])
        have hx : (nums (p :: l) K ++ M).idxOf p.n = K.length := by
          rw [e, hM1, List.append_assoc, List.append_assoc, List.idxOf_append, if_neg hin]
          show ([p.n] ++ _).idxOf p.n + K.length = _
          rw [List.idxOf_append, if_pos (List.mem_singleton.2 rfl)]
          simp
        rw [hx] at hrn
        rw [hrn, if_pos]
        · have h := ih (K ++ [p.n]) M
          rw [List.length_append, List.length_singleton, range_snoc] at h
          rw [e]; exact h
        · refine ⟨hk, fun h => ?_⟩
          obtain ⟨i, hi, e⟩ := List.mem_map.1 h
          have := List.mem_range.1 hi
          omega
    · have e : nums (p :: l) K = nums l K := by
        show nums l (if p.k = 11 ∧ p.n ∉ K then _ else _) = _
        rw [if_neg (fun h => hk h.1)]
      rw [if_neg (fun h => hk h.1), e]
      exact ih K M
theorem idx_range (n i : Nat) (h : i < n) : ((List.range n).map (fun i : Nat => (i : Int))).idxOf (i : Int) = i := by
  have hn : ((List.range n).map (fun i : Nat => (i : Int))).Nodup := by
    rw [List.Nodup, List.pairwise_map]
    exact List.Pairwise.imp (fun h e => h (Int.ofNat_inj.1 e)) List.nodup_range
  have hm : (i : Int) ∈ (List.range n).map (fun i : Nat => (i : Int)) := List.mem_map.2 ⟨i, List.mem_range.2 h, rfl⟩
  have h1 := List.getElem_idxOf (List.idxOf_lt_length_of_mem hm)
  rw [List.getElem_map, List.getElem_range] at h1
  exact Int.ofNat_inj.1 h1
theorem norm_norm (l : List Part) : norm (norm l) = norm l := by
  have h := nums_ren l [] []
  rw [List.append_nil] at h
  have h' : nums (norm l) [] = (List.range (nums l []).length).map (fun i : Nat => (i : Int)) := h
  show (norm l).map (ren (nums (norm l) [])) = norm l
  rw [h']
  refine (List.map_congr_left fun q hq => ?_).trans (List.map_id _)
  obtain ⟨p, hp, rfl⟩ := List.mem_map.1 hq
  by_cases hk : p.k = 11
  · have hm := nums_mem l [] p hp hk
    have e : ren (nums l []) p = { p with n := ((nums l []).idxOf p.n : Nat) } := by unfold ren; rw [if_pos hk]
    rw [e]
    unfold ren
    rw [if_pos hk]
    show ({ p with n := _ } : Part) = { p with n := _ }
    rw [idx_range _ _ (List.idxOf_lt_length_of_mem hm)]
  · have e : ∀ N, ren N p = p := fun N => by unfold ren; rw [if_neg hk]
    rw [e, e]; rfl
/-- Where there are no variables the normal one is the type. -/
theorem norm_closed {l : List Part} (h : closed l = true) : norm l = l := by
  refine (List.map_congr_left fun p hp => ?_).trans (List.map_id _)
  unfold ren
  rw [if_neg]
  · rfl
  · intro hk
    have := List.all_eq_true.1 h p hp
    rw [hk] at this
    cases this
/-- A type's words. -/
def word (k : Int) : List UInt8 :=
  if k = 1 then [105, 110, 116] else if k = 2 then [98, 111, 111, 108] else if k = 3 then [117, 110, 105, 116] else if k = 4 then [115, 116, 114, 105, 110, 103] else if k = 5 then [97, 114, 114, 97, 121] else []
def digs (n : Nat) : List UInt8 := (Nat.toDigits 10 n).map fun c => UInt8.ofNat c.toNat
def vtx (n : Int) : List UInt8 := [39, UInt8.ofNat (97 + n.toNat % 26)] ++ (if 26 ≤ n then digs (n.toNat / 26) else [])
def opn : List UInt8 := [40]
def one_ (k : Int) : List UInt8 := if k = 7 then [32, 108, 105, 115, 116, 41] else [32, 114, 101, 102, 41]
def mid_ (k : Int) : List UInt8 := if k = 6 then [32, 42, 32] else [32, 45, 62, 32]
def tx : Ty → List UInt8
  | .leaf k t => if k = 10 then t else word k
  | .var n => vtx n
  | .one k s => opn ++ tx s ++ one_ k
  | .two k s u => opn ++ tx s ++ mid_ k ++ tx u ++ [41]
/-- How long the texts in a list are. -/
def tlen (l : List Part) : Nat := (l.map fun p => 1 + p.t.length).sum
end Go.Proofs.YtcilodgpbdafeaaDoor
