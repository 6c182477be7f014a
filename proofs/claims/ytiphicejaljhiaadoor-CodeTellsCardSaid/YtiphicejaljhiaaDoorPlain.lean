/- The plain law of programs as bytes: what is written, what is read, and that reading what was written gives it back. No program in sight. -/
import Derived.Test.YtiphicejaljhiaaDoorCode
namespace Go.Proofs.YtiphicejaljhiaaDoor

/-! ### Numbers as bytes -/
def byteOf (v : Int) : UInt8 := UInt8.ofNat (v % 256).toNat
def numB (v : Int) : Nat → List UInt8
  | 0 => []
  | n + 1 => byteOf (v / 2 ^ (8 * n)) :: numB v n
def natB (l : List UInt8) : Nat := l.foldl (fun v c => v * 256 + c.toNat) 0
theorem byteOf_nat (v : Int) : ((byteOf v).toNat : Int) = v % 256 := by
  unfold byteOf
  have h1 : 0 ≤ v % 256 := Int.emod_nonneg _ (by decide)
  have h2 : v % 256 < 256 := Int.emod_lt_of_pos _ (by decide)
  rw [UInt8.toNat_ofNat']
  omega
theorem numB_len (v : Int) : ∀ n, (numB v n).length = n
  | 0 => rfl
  | n + 1 => by simp [numB, numB_len v n]
theorem foldB (l : List UInt8) : ∀ (v : Nat), l.foldl (fun v c => v * 256 + c.toNat) v = v * 256 ^ l.length + natB l := by
  unfold natB
  induction l with
  | nil => intro v; simp
  | cons c l ih =>
    intro v
    simp only [List.foldl_cons, List.length_cons]
    rw [ih, ih (0 * 256 + c.toNat), Nat.pow_succ]
    simp only [Nat.zero_mul, Nat.zero_add, Nat.add_mul]
    rw [Nat.mul_assoc, Nat.mul_comm 256, Nat.add_assoc]
theorem natB_cons (c : UInt8) (l : List UInt8) : natB (c :: l) = c.toNat * 256 ^ l.length + natB l := by
  show List.foldl _ (0 * 256 + c.toNat) l = _
  rw [foldB]; simp
theorem natB_lt (l : List UInt8) : natB l < 256 ^ l.length := by
  induction l with
  | nil => simp [natB]
  | cons c l ih =>
    rw [natB_cons, List.length_cons, Nat.pow_succ]
    have := c.toNat_lt
    have h3 : c.toNat * 256 ^ l.length ≤ 255 * 256 ^ l.length := Nat.mul_le_mul_right _ (by omega)
    omega
theorem natB_snoc (l : List UInt8) (c : UInt8) : natB (l ++ [c]) = natB l * 256 + c.toNat := by
  unfold natB; rw [List.foldl_append]; rfl
/-- What a number's bytes tell: the number but a multiple of so many bytes. -/
theorem natB_numB (v : Int) : ∀ n, ((natB (numB v n) : Nat) : Int) = v % 2 ^ (8 * n)
  | 0 => by simp [numB, natB, Int.emod_one]
  | n + 1 => by
    rw [numB, natB_cons, numB_len]
    have ih := natB_numB v n
    rw [Int.natCast_add, Int.natCast_mul, Int.natCast_pow, ih, byteOf_nat, show ((256 : Nat) : Int) = 256 from rfl]
    have h256 : (256 : Int) ^ n = 2 ^ (8 * n) := by rw [show (256 : Int) = 2 ^ 8 from rfl, ← Int.pow_mul]
    rw [h256, show 8 * (n + 1) = 8 * n + 8 from by omega, Int.pow_add]
    have hp : (0 : Int) < 2 ^ (8 * n) := Int.pow_pos (by decide)
    generalize (2 : Int) ^ (8 * n) = m at hp ⊢
    have e := Int.emod_add_mul_ediv v m
    rw [show (2 : Int) ^ 8 = 256 from rfl, Int.emod_def v (m * 256), ← Int.ediv_ediv_of_nonneg (Int.le_of_lt hp), Int.emod_def (v / m) 256, Int.emod_def v m]
    generalize v / m / 256 = q
    rw [Int.sub_mul, Int.mul_comm (v / m) m, Int.mul_comm (256 * q) m, ← Int.mul_assoc m 256 q]
    omega
/-- The signed number of 64 bits. -/
def sgn (n : Nat) : Int := if n < 9223372036854775808 then n else (n : Int) - 18446744073709551616
theorem sgn_numB8 (v : Int) (h : -9223372036854775808 ≤ v ∧ v ≤ 9223372036854775807) : sgn (natB (numB v 8)) = v := by
  have e := natB_numB v 8
  rw [show (2 : Int) ^ (8 * 8) = 18446744073709551616 from rfl] at e
  unfold sgn
  split <;> omega
theorem sgn_numB2 (v : Int) (h : 0 ≤ v ∧ v < 65536) : sgn (natB (numB v 2)) = v := by
  have e := natB_numB v 2
  rw [show (2 : Int) ^ (8 * 2) = 65536 from rfl] at e
  unfold sgn
  split <;> omega
theorem sgn_numB1 (v : Int) (h : 0 ≤ v ∧ v < 256) : sgn (natB (numB v 1)) = v := by
  have e := natB_numB v 1
  rw [show (2 : Int) ^ (8 * 1) = 256 from rfl] at e
  unfold sgn
  split <;> omega
theorem sgn_numB0 (v : Int) : sgn (natB (numB v 0)) = 0 := rfl

/-! ### What is written -/
def wid (o : Int) : Nat := if o = 0 ∨ o = 21 then 8 else if o = 1 ∨ o = 2 ∨ o = 3 ∨ o = 4 ∨ o = 6 ∨ o = 10 ∨ o = 11 ∨ o = 19 ∨ o = 20 ∨ o = 22 ∨ o = 33 ∨ o = 36 then 2 else 0
def sec (o : Int) : Bool := decide (o = 6 ∨ o = 19 ∨ o = 36)
def eIns (i : Ins) : List UInt8 := numB i.o 1 ++ (numB i.a (wid i.o) ++ (if sec i.o then numB i.b 1 else []))
def eFn (f : Fn) : List UInt8 := numB f.locals 1 ++ (numB f.free 1 ++ (numB f.code.length 2 ++ f.code.flatMap eIns))
def eStr (s : List UInt8) : List UInt8 := numB s.length 1 ++ s
def eFm (f : Fm) : List UInt8 := numB f.kind 1 ++ (numB f.a 1 ++ (numB f.b 1 ++ (numB f.cons.length 1 ++ f.cons.flatMap fun c => numB c 1)))
def ePr (p : Pr) : List UInt8 :=
  numB p.funcs.length 1 ++ (numB p.strs.length 1 ++ (numB p.forms.length 1 ++ (p.funcs.flatMap eFn ++ (p.strs.flatMap eStr ++ p.forms.flatMap eFm))))

/-! ### What may be -/
def gFn (f : Fn) (first : Bool) : Bool := f.code.all insGood && (gBetw f.locals (if first then 0 else 1) 60 && (gBetw f.free 0 (if first then 0 else 30) && gBetw f.code.length 1 600))
def gFm (f : Fm) (n : Int) : Bool :=
  f.cons.all (fun c => gBetw c (-1) (n - 1)) && (gBetw f.kind 1 7 && (gBetw f.a 0 (if f.kind = 5 ∨ f.kind = 6 then n - 1 else 0) && (gBetw f.b 0 (if f.kind = 5 then n - 1 else 0) &&
    gBetw f.cons.length (if f.kind = 7 then 1 else 0) (if f.kind = 7 then 20 else 0))))
def gFns : Bool → List Fn → Bool
  | _, [] => true
  | first, f :: l => gFn f first && gFns false l
def gPr (p : Pr) : Bool :=
  (gBetw p.funcs.length 1 60 && (decide (p.strs.length ≤ 40) && decide (p.forms.length ≤ 40))) && (gFns true p.funcs && (p.strs.all (fun s => decide (s.length ≤ 60)) && p.forms.all fun f => gFm f p.forms.length))

/-! ### What is read -/
abbrev St := List UInt8 × Bool
/-- A taker gives just what is there. -/
def Takes (tk : Nat → St → List UInt8 × St) : Prop := ∀ (x r : List UInt8), tk x.length (x ++ r, false) = (x, (r, false))
def tkC (n : Nat) (s : St) : List UInt8 × St := if s.1.length < n then (List.replicate n 0, ([], true)) else (s.1.take n, (s.1.drop n, s.2))
def tkR (n : Nat) (s : St) : List UInt8 × St := if s.2 = true ∨ s.1.length < n then (List.replicate n 0, (s.1, true)) else (s.1.take n, (s.1.drop n, s.2))
theorem takesC : Takes tkC := by intro x r; simp [tkC]
theorem takesR : Takes tkR := by intro x r; simp [tkR]
section
variable (tk : Nat → St → List UInt8 × St) (lim : Int)
def nV (n : Nat) (s : St) : Int := sgn (natB (tk n s).1)
def nS (n : Nat) (s : St) : St := (tk n s).2
def rCode : Nat → St → List Ins × St
  | 0, s => ([], s)
  | n + 1, s =>
    if s.2 then ([], s)
    else if lim ≤ nV tk 1 s then ([], ((nS tk 1 s).1, true))
    else
      let o := nV tk 1 s
      let s1 := nS tk 1 s
      let s2 := nS tk (wid o) s1
      let r := rCode n (if sec o then nS tk 1 s2 else s2)
      (⟨o, nV tk (wid o) s1, if sec o then nV tk 1 s2 else 0⟩ :: r.1, r.2)
def rFn (s : St) : Fn × St :=
  let s1 := nS tk 1 s
  let s2 := nS tk 1 s1
  let r := rCode tk lim (nV tk 2 s2).toNat (nS tk 2 s2)
  (⟨nV tk 1 s, nV tk 1 s1, r.1⟩, r.2)
def rFns : Nat → St → List Fn × St
  | 0, s => ([], s)
  | n + 1, s => if s.2 then ([], s) else
    let f := rFn tk lim s
    let r := rFns n f.2
    (f.1 :: r.1, r.2)
def rStrs : Nat → St → List (List UInt8) × St
  | 0, s => ([], s)
  | n + 1, s => if s.2 then ([], s) else
    let k := (nV tk 1 s).toNat
    let x := tk k (nS tk 1 s)
    let r := rStrs n x.2
    (x.1 :: r.1, r.2)
def rCons : Nat → St → List Int × St
  | 0, s => ([], s)
  | n + 1, s => if s.2 then ([], s) else
    let r := rCons n (nS tk 1 s)
    ((if nV tk 1 s = 255 then -1 else nV tk 1 s) :: r.1, r.2)
def rFm (s : St) : Fm × St :=
  let s1 := nS tk 1 s
  let s2 := nS tk 1 s1
  let s3 := nS tk 1 s2
  let r := rCons tk (nV tk 1 s3).toNat (nS tk 1 s3)
  (⟨nV tk 1 s, nV tk 1 s1, nV tk 1 s2, r.1⟩, r.2)
def rFms : Nat → St → List Fm × St
  | 0, s => ([], s)
  | n + 1, s => if s.2 then ([], s) else
    let f := rFm tk s
    let r := rFms n f.2
    (f.1 :: r.1, r.2)
def rPr (s : St) : Pr × St :=
  let s1 := nS tk 1 s
  let s2 := nS tk 1 s1
  let s3 := nS tk 1 s2
  let a := rFns tk lim (nV tk 1 s).toNat s3
  let b := rStrs tk (nV tk 1 s1).toNat a.2
  let c := rFms tk (nV tk 1 s2).toNat b.2
  (⟨a.1, b.1, c.1⟩, c.2)
end
section
variable {tk : Nat → St → List UInt8 × St} {lim : Int} (ht : Takes tk)
theorem n_of (ht : Takes tk) {x r : List UInt8} {n : Nat} (hn : x.length = n) : nV tk n (x ++ r, false) = sgn (natB x) ∧ nS tk n (x ++ r, false) = (r, false) := by
  subst hn
  unfold nV nS
  rw [ht]
  exact ⟨rfl, rfl⟩
theorem n_one (ht : Takes tk) {v : Int} (hv : 0 ≤ v ∧ v < 256) (r : List UInt8) : nV tk 1 (numB v 1 ++ r, false) = v ∧ nS tk 1 (numB v 1 ++ r, false) = (r, false) := by
  obtain ⟨h1, h2⟩ := n_of ht (r := r) (numB_len v 1)
  exact ⟨h1.trans (sgn_numB1 v hv), h2⟩
theorem n_two (ht : Takes tk) {v : Int} (hv : 0 ≤ v ∧ v < 65536) (r : List UInt8) : nV tk 2 (numB v 2 ++ r, false) = v ∧ nS tk 2 (numB v 2 ++ r, false) = (r, false) := by
  obtain ⟨h1, h2⟩ := n_of ht (r := r) (numB_len v 2)
  exact ⟨h1.trans (sgn_numB2 v hv), h2⟩
end
/-- What an instruction that may be has: its numbers are told by their bytes. -/
theorem good_ins {i : Ins} (h : insGood i = true) : (0 ≤ i.o ∧ i.o < 38) ∧ sgn (natB (numB i.a (wid i.o))) = i.a ∧ (0 ≤ i.b ∧ i.b < 256) ∧ (sec i.o = false → i.b = 0) := by
  obtain ⟨o, a, b⟩ := i
  unfold insGood gGood at h
  simp only at h ⊢
  split at h
  · cases h
  · rename_i ho
    split at h
    · cases h
    · rename_i h36
      have hlo : 0 ≤ o ∧ o < 38 := by omega
      refine ⟨hlo, ?_⟩
      obtain ⟨k, rfl⟩ : ∃ k : Nat, o = k := ⟨o.toNat, by omega⟩
      have hk : k < 38 := by omega
      simp only [Int.toNat_natCast, decide_eq_true_eq] at h
      have T : ∀ k : Nat, k < 38 → ((wid (k : Int) = 8 ∧ -9223372036854775808 ≤ (opRow k).a0 ∧ (opRow k).a1 ≤ 9223372036854775807) ∨ (wid (k : Int) = 2 ∧ 0 ≤ (opRow k).a0 ∧ (opRow k).a1 < 65536) ∨ (wid (k : Int) = 0 ∧ (opRow k).a0 = 0 ∧ (opRow k).a1 = 0)) ∧
          0 ≤ (opRow k).b0 ∧ (opRow k).b1 < 256 ∧ (sec (k : Int) = false → (opRow k).b0 = 0 ∧ (opRow k).b1 = 0) := by decide +kernel
      obtain ⟨hA, hb0, hb1, hsec⟩ := T k hk
      refine ⟨?_, ⟨by omega, by omega⟩, fun hs => by have := hsec hs; omega⟩
      rcases hA with ⟨e, h0, h1⟩ | ⟨e, h0, h1⟩ | ⟨e, h0, h1⟩
      · rw [e]; exact sgn_numB8 a ⟨by omega, by omega⟩
      · rw [e]; exact sgn_numB2 a ⟨by omega, by omega⟩
      · rw [e, sgn_numB0]; omega
section
variable {tk : Nat → St → List UInt8 × St} {lim : Int}
theorem r_code (ht : Takes tk) (hl : 38 ≤ lim) : ∀ (l : List Ins) (r : List UInt8), l.all insGood = true → rCode tk lim l.length (l.flatMap eIns ++ r, false) = (l, (r, false)) := by
  intro l
  induction l with
  | nil => intro r _; rfl
  | cons i l ih =>
    intro r h
    simp only [List.all_cons, Bool.and_eq_true] at h
    obtain ⟨⟨h0, h1⟩, ha, hb, hs⟩ := good_ins h.1
    have ho : 0 ≤ i.o ∧ i.o < 256 := by omega
    rw [List.flatMap_cons, List.length_cons]
    rw [show eIns i = numB i.o 1 ++ (numB i.a (wid i.o) ++ (if sec i.o then numB i.b 1 else [])) from rfl]
    unfold rCode
    simp only [List.append_assoc]
    obtain ⟨e1, e2⟩ := n_one ht ho (numB i.a (wid i.o) ++ ((if sec i.o then numB i.b 1 else []) ++ (l.flatMap eIns ++ r)))
    rw [if_neg (by simp), e1, e2, if_neg (by omega)]
    obtain ⟨e3, e4⟩ := n_of ht (r := (if sec i.o then numB i.b 1 else []) ++ (l.flatMap eIns ++ r)) (numB_len i.a (wid i.o))
    simp only [e3, e4, ha]
    cases hsec : sec i.o
    · simp only [Bool.false_eq_true, if_false, List.nil_append]
      rw [ih r h.2, ← hs hsec]
    · simp only [if_true]
      obtain ⟨e5, e6⟩ := n_one ht hb (l.flatMap eIns ++ r)
      rw [e5, e6, ih r h.2]
theorem betw_iff {v l m : Int} : gBetw v l m = true ↔ l ≤ v ∧ v ≤ m := by unfold gBetw; simp
theorem r_fn (ht : Takes tk) (hl : 38 ≤ lim) (f : Fn) (first : Bool) (r : List UInt8) (h : gFn f first = true) : rFn tk lim (eFn f ++ r, false) = (f, (r, false)) := by
  unfold gFn at h
  simp only [Bool.and_eq_true, betw_iff] at h
  obtain ⟨hc, h1, h2, h3⟩ := h
  have b1 : 0 ≤ f.locals ∧ f.locals < 256 := by cases first <;> simp at h1 <;> omega
  have b2 : 0 ≤ f.free ∧ f.free < 256 := by cases first <;> simp at h2 <;> omega
  unfold rFn eFn
  simp only [List.append_assoc]
  obtain ⟨e1, e2⟩ := n_one ht b1 (numB f.free 1 ++ (numB f.code.length 2 ++ (f.code.flatMap eIns ++ r)))
  obtain ⟨e3, e4⟩ := n_one ht b2 (numB f.code.length 2 ++ (f.code.flatMap eIns ++ r))
  obtain ⟨e5, e6⟩ := n_two ht (v := f.code.length) ⟨by omega, by omega⟩ (f.code.flatMap eIns ++ r)
  simp only [e1, e2, e3, e4, e5, e6, Int.toNat_natCast, r_code ht hl f.code r hc]
theorem r_fns (ht : Takes tk) (hl : 38 ≤ lim) : ∀ (l : List Fn) (first : Bool) (r : List UInt8), gFns first l = true → rFns tk lim l.length (l.flatMap eFn ++ r, false) = (l, (r, false)) := by
  intro l
  induction l with
  | nil => intro _ r _; rfl
  | cons f l ih =>
    intro first r h
    simp only [gFns, Bool.and_eq_true] at h
    rw [List.flatMap_cons, List.length_cons, List.append_assoc]
    unfold rFns
    simp only [r_fn ht hl f first _ h.1, ih false r h.2]
    rfl
theorem r_strs (ht : Takes tk) : ∀ (l : List (List UInt8)) (r : List UInt8), l.all (fun s => decide (s.length ≤ 60)) = true → rStrs tk l.length (l.flatMap eStr ++ r, false) = (l, (r, false)) := by
  intro l
  induction l with
  | nil => intro r _; rfl
  | cons s l ih =>
    intro r h
    simp only [List.all_cons, Bool.and_eq_true, decide_eq_true_eq] at h
    rw [List.flatMap_cons, List.length_cons]
    rw [show eStr s = numB s.length 1 ++ s from rfl]
    unfold rStrs
    simp only [List.append_assoc]
    obtain ⟨e1, e2⟩ := n_one ht (v := s.length) ⟨by omega, by omega⟩ (s ++ (l.flatMap eStr ++ r))
    have e3 := ht s (l.flatMap eStr ++ r)
    simp only [e1, e2, Int.toNat_natCast]
    rw [e3]
    dsimp only
    rw [ih r (by simpa using h.2)]
    rfl
theorem r_cons (ht : Takes tk) : ∀ (l : List Int) (n : Int) (r : List UInt8), n ≤ 200 → l.all (fun c => gBetw c (-1) n) = true → rCons tk l.length (l.flatMap (fun c => numB c 1) ++ r, false) = (l, (r, false)) := by
  intro l
  induction l with
  | nil => intro _ r _ _; rfl
  | cons c l ih =>
    intro n r hn h
    simp only [List.all_cons, Bool.and_eq_true, betw_iff] at h
    rw [List.flatMap_cons, List.length_cons, List.append_assoc]
    unfold rCons
    have e := natB_numB c 1
    rw [show (2 : Int) ^ (8 * 1) = 256 from rfl] at e
    obtain ⟨e1, e2⟩ := n_of ht (r := l.flatMap (fun c => numB c 1) ++ r) (numB_len c 1)
    simp only [e1, e2, ih n r hn h.2]
    rw [if_neg (by simp)]
    congr 2
    unfold sgn
    split <;> split <;> omega
theorem r_fm (ht : Takes tk) (f : Fm) (n : Int) (r : List UInt8) (hn : 0 ≤ n ∧ n ≤ 100) (h : gFm f n = true) : rFm tk (eFm f ++ r, false) = (f, (r, false)) := by
  unfold gFm at h
  simp only [Bool.and_eq_true, betw_iff] at h
  obtain ⟨hc, h1, h2, h3, h4⟩ := h
  have b1 : 0 ≤ f.kind ∧ f.kind < 256 := by omega
  have b2 : 0 ≤ f.a ∧ f.a < 256 := by split at h2 <;> omega
  have b3 : 0 ≤ f.b ∧ f.b < 256 := by split at h3 <;> omega
  have b4 : 0 ≤ (f.cons.length : Int) ∧ (f.cons.length : Int) < 256 := by split at h4 <;> omega
  unfold rFm eFm
  simp only [List.append_assoc]
  obtain ⟨e1, e2⟩ := n_one ht b1 (numB f.a 1 ++ (numB f.b 1 ++ (numB f.cons.length 1 ++ (f.cons.flatMap (fun c => numB c 1) ++ r))))
  obtain ⟨e3, e4⟩ := n_one ht b2 (numB f.b 1 ++ (numB f.cons.length 1 ++ (f.cons.flatMap (fun c => numB c 1) ++ r)))
  obtain ⟨e5, e6⟩ := n_one ht b3 (numB f.cons.length 1 ++ (f.cons.flatMap (fun c => numB c 1) ++ r))
  obtain ⟨e7, e8⟩ := n_one ht b4 (f.cons.flatMap (fun c => numB c 1) ++ r)
  simp only [e1, e2, e3, e4, e5, e6, e7, e8, Int.toNat_natCast, r_cons ht f.cons (n - 1) r (by omega) hc]
theorem r_fms (ht : Takes tk) (n : Int) (hn : 0 ≤ n ∧ n ≤ 100) : ∀ (l : List Fm) (r : List UInt8), l.all (fun f => gFm f n) = true → rFms tk l.length (l.flatMap eFm ++ r, false) = (l, (r, false)) := by
  intro l
  induction l with
  | nil => intro r _; rfl
  | cons f l ih =>
    intro r h
    simp only [List.all_cons, Bool.and_eq_true] at h
    rw [List.flatMap_cons, List.length_cons, List.append_assoc]
    unfold rFms
    simp only [r_fm ht f n _ hn h.1, ih r h.2]
    rfl
/-- READING WHAT WAS WRITTEN. -/
theorem r_pr (ht : Takes tk) (hl : 38 ≤ lim) (p : Pr) (r : List UInt8) (h : gPr p = true) : rPr tk lim (ePr p ++ r, false) = (p, (r, false)) := by
  unfold gPr at h
  simp only [Bool.and_eq_true, betw_iff, decide_eq_true_eq] at h
  obtain ⟨⟨h1, h2, h3⟩, h4, h5, h6⟩ := h
  unfold rPr ePr
  simp only [List.append_assoc]
  obtain ⟨e1, e2⟩ := n_one ht (v := p.funcs.length) ⟨by omega, by omega⟩ (numB p.strs.length 1 ++ (numB p.forms.length 1 ++ (p.funcs.flatMap eFn ++ (p.strs.flatMap eStr ++ (p.forms.flatMap eFm ++ r)))))
  obtain ⟨e3, e4⟩ := n_one ht (v := p.strs.length) ⟨by omega, by omega⟩ (numB p.forms.length 1 ++ (p.funcs.flatMap eFn ++ (p.strs.flatMap eStr ++ (p.forms.flatMap eFm ++ r))))
  obtain ⟨e5, e6⟩ := n_one ht (v := p.forms.length) ⟨by omega, by omega⟩ (p.funcs.flatMap eFn ++ (p.strs.flatMap eStr ++ (p.forms.flatMap eFm ++ r)))
  simp only [e1, e2, e3, e4, e5, e6, Int.toNat_natCast]
  rw [r_fns ht hl p.funcs true _ h4]
  dsimp only
  rw [r_strs ht p.strs _ (by simpa using h5)]
  dsimp only
  rw [r_fms ht p.forms.length ⟨by omega, by omega⟩ p.forms r (by simpa using h6)]
end
/-! ### The program of bytes -/
def emptyPr : Pr := ⟨[], [], []⟩
/-- The program of bytes, as the code finds it. -/
def dec (b : List UInt8) : Option Pr :=
  if (rPr tkC 38 (b, false)).2.2 = false ∧ gPr (rPr tkC 38 (b, false)).1 = true ∧ ePr (rPr tkC 38 (b, false)).1 = b then some (rPr tkC 38 (b, false)).1 else none
theorem dec_iff (b : List UInt8) (p : Pr) : dec b = some p ↔ gPr p = true ∧ ePr p = b := by
  unfold dec
  constructor
  · intro h
    split at h
    · rename_i hh
      obtain rfl := Option.some.inj h
      exact ⟨hh.2.1, hh.2.2⟩
    · cases h
  · rintro ⟨h1, rfl⟩
    have e := r_pr takesC (by decide : (38 : Int) ≤ 38) p [] h1
    rw [List.append_nil] at e
    rw [e]
    simp [h1]
/-- As the document finds it. -/
theorem dec_ref (b : List UInt8) : dec b = if (rPr tkR 256 (b, false)).2.2 = false ∧ (rPr tkR 256 (b, false)).2.1 = [] ∧ gPr (rPr tkR 256 (b, false)).1 = true ∧ ePr (rPr tkR 256 (b, false)).1 = b then some (rPr tkR 256 (b, false)).1 else none := by
  cases hd : dec b with
  | none =>
    symm
    rw [if_neg]
    rintro ⟨_, _, h1, h2⟩
    rw [(dec_iff b _).2 ⟨h1, h2⟩] at hd
    cases hd
  | some p =>
    obtain ⟨h1, rfl⟩ := (dec_iff b p).1 hd
    have e := r_pr takesR (by decide : (38 : Int) ≤ 256) p [] h1
    rw [List.append_nil] at e
    rw [e]
    simp [h1]
theorem dec_enc {p : Pr} (h : gPr p = true) : dec (ePr p) = some p := (dec_iff _ p).2 ⟨h, rfl⟩
/-- Two programs' bytes, one the other's and more: none more. -/
theorem enc_more {p q : Pr} {r : List UInt8} (hp : gPr p = true) (hq : gPr q = true) (h : ePr q = ePr p ++ r) : r = [] := by
  have e1 := r_pr takesC (by decide : (38 : Int) ≤ 38) q [] hq
  have e2 := r_pr takesC (by decide : (38 : Int) ≤ 38) p r hp
  rw [List.append_nil, h, e2] at e1
  simp only [Prod.mk.injEq] at e1
  exact e1.2.1
theorem dec_more {p : Pr} (hp : gPr p = true) (c : UInt8) : dec (ePr p ++ [c]) = none := by
  cases hd : dec (ePr p ++ [c]) with
  | none => rfl
  | some q =>
    obtain ⟨h1, h2⟩ := (dec_iff _ q).1 hd
    cases enc_more hp h1 h2
theorem enc_three (p : Pr) : ∃ l, ePr p = byteOf p.funcs.length :: byteOf p.strs.length :: byteOf p.forms.length :: l := by
  unfold ePr
  simp [numB]
theorem dec_less {p : Pr} (hp : gPr p = true) : dec ((ePr p).take ((ePr p).length - 1)) = none := by
  cases hd : dec ((ePr p).take ((ePr p).length - 1)) with
  | none => rfl
  | some q =>
    obtain ⟨h1, h2⟩ := (dec_iff _ q).1 hd
    have hne : ePr p = ePr q ++ (ePr p).drop ((ePr p).length - 1) := by rw [h2, List.take_append_drop]
    have h3 := enc_more h1 hp hne
    have h4 : ((ePr p).drop ((ePr p).length - 1)).length = 0 := by rw [h3]; rfl
    obtain ⟨l, e⟩ := enc_three p
    rw [List.length_drop, e] at h4
    simp at h4
theorem dec_spoilt {p q : Pr} {c : List UInt8} (hc : c ≠ ePr p) (h : dec c = some q) : q ≠ p := by
  rintro rfl
  exact hc ((dec_iff _ _).1 h).2.symm
end Go.Proofs.YtiphicejaljhiaaDoor
