/- The document's reader in plain words, on the ways that the laws' own sources go (none: another way). -/
import Derived.Test.YtphojigdapaaiaaDoorZBc
import Derived.Test.YtphojigdapaaiaaDoorZBa
import Derived.Test.YtphojigdapaaiaaDoorZBb
import Derived.StillTailTactics
import Derived.Deep.QuietTactic
import Derived.BigQuiet
import Derived.Great.Walk
import Derived.LoopN
import Derived.Test.YtphojigdapaaiaaDoorSHp
namespace Go.Proofs.YtphojigdapaaiaaDoor
set_option linter.unusedVariables false
abbrev sE : ByteArray := ⟨#[]⟩
abbrev sInt : ByteArray := ⟨#[105, 110, 116]⟩
abbrev sBool : ByteArray := ⟨#[98, 111, 111, 108]⟩
abbrev sUnit : ByteArray := ⟨#[117, 110, 105, 116]⟩
abbrev sString : ByteArray := ⟨#[115, 116, 114, 105, 110, 103]⟩
abbrev sList : ByteArray := ⟨#[108, 105, 115, 116]⟩
abbrev sStar : ByteArray := ⟨#[42]⟩
abbrev sOf : ByteArray := ⟨#[111, 102]⟩
abbrev sBar : ByteArray := ⟨#[124]⟩
abbrev sType : ByteArray := ⟨#[116, 121, 112, 101]⟩
abbrev sEq : ByteArray := ⟨#[61]⟩
abbrev sSemi : ByteArray := ⟨#[59]⟩
abbrev sUnd : ByteArray := ⟨#[95]⟩
abbrev sMinus : ByteArray := ⟨#[45]⟩
abbrev sTrue : ByteArray := ⟨#[116, 114, 117, 101]⟩
abbrev sFalse : ByteArray := ⟨#[102, 97, 108, 115, 101]⟩
abbrev sLb : ByteArray := ⟨#[91]⟩
abbrev sLp : ByteArray := ⟨#[40]⟩
abbrev sRp : ByteArray := ⟨#[41]⟩
abbrev sComma : ByteArray := ⟨#[44]⟩
abbrev sCc : ByteArray := ⟨#[58, 58]⟩
abbrev sArrow : ByteArray := ⟨#[45, 62]⟩
abbrev sMatch : ByteArray := ⟨#[109, 97, 116, 99, 104]⟩
abbrev sWith : ByteArray := ⟨#[119, 105, 116, 104]⟩
abbrev sEnd : ByteArray := ⟨#[101, 110, 100]⟩
abbrev sTry : ByteArray := ⟨#[116, 114, 121]⟩
abbrev sOne : ByteArray := ⟨#[49]⟩
abbrev sBang : ByteArray := ⟨#[33]⟩
abbrev sSlash : ByteArray := ⟨#[47]⟩
abbrev sPct : ByteArray := ⟨#[37]⟩
abbrev sPlus : ByteArray := ⟨#[43]⟩
abbrev sHat : ByteArray := ⟨#[94]⟩
abbrev sLess : ByteArray := ⟨#[60]⟩
abbrev sSet : ByteArray := ⟨#[58, 61]⟩
abbrev sLet : ByteArray := ⟨#[108, 101, 116]⟩
abbrev sRec : ByteArray := ⟨#[114, 101, 99]⟩
abbrev sIn : ByteArray := ⟨#[105, 110]⟩
abbrev sFun : ByteArray := ⟨#[102, 117, 110]⟩
abbrev sIf : ByteArray := ⟨#[105, 102]⟩
abbrev lis (s : ByteArray) : List UInt8 := s.data.toList
def tyatomF (S : Rd) : Option (Rd × Int) := do
  let S1 ← openF S
  if isF 5 sInt S1 then
    let (S2, t) ← takeF 5 sE S1
    let (S3, k) ← nodeF ⟨35, [], [], 0, 0, 0, 0, hereF S1⟩ S2
    let S4 ← closeF S3
    some (S4, k)
  else req (!isF 5 sBool S1 && !isF 5 sUnit S1 && isF 5 sString S1) (do
    let (S2, t) ← takeF 5 sE S1
    let (S3, k) ← nodeF ⟨38, [], [], 0, 0, 0, 0, hereF S1⟩ S2
    let S4 ← closeF S3
    some (S4, k))
def tyF (S : Rd) : Option (Rd × Int) := do
  let S1 ← openF S
  let (S2, k) ← tyatomF S1
  req (!isF 5 sList S2 && !isF 6 sStar S2) (do
    let S3 ← closeF S2
    some (S3, k))
def ofTyF (S : Rd) : Option (Rd × Int) :=
  if isF 5 sOf S then (do
    let (S1, _) ← takeF 5 sOf S
    tyF S1)
  else some (S, -1)
def conLoopF : Nat → Rd → List Nod → Option (Rd × List Nod)
  | 0, _, _ => none
  | n + 1, S, acc => do
    let (S1, t) ← takeF 2 sE S
    let (S2, a) ← ofTyF S1
    if isF 6 sBar S2 then
      let (S3, _) ← takeF 6 sBar S2
      conLoopF n S3 (acc ++ [⟨43, lis t.s, [], 0, a, 0, 0, hereF S⟩])
    else some (S2, acc ++ [⟨43, lis t.s, [], 0, a, 0, 0, hereF S⟩])
def backF (f : Nod → Int → Nod) : List Nod → Int → Rd → Option (Rd × Int)
  | [], nx, S => some (S, nx)
  | x :: xs, nx, S => do
    let (S1, k) ← nodeF (f x nx) S
    backF f xs k S1
def setB (x : Nod) (n : Int) : Nod := { x with b := n }
def setC (x : Nod) (n : Int) : Nod := { x with c := n }
def typF (S : Rd) : Option Rd := do
  let (S1, _) ← takeF 5 sType S
  let (S2, t) ← takeF 1 sE S1
  let (S3, _) ← takeF 6 sEq S2
  let (S4, acc) ← conLoopF 20 S3 []
  let (S5, _) ← takeF 6 sSemi S4
  let (S6, nx) ← backF setB acc.reverse (-1) S5
  let (S7, k) ← nodeF ⟨42, lis t.s, [], 0, nx, 0, 0, hereF S⟩ S6
  req (decide (S7.types.length < 500)) (some { S7 with types := S7.types ++ [k] })
def patBegF (S : Rd) : Bool := isF 3 sE S || isF 2 sE S || isF 1 sE S || isF 5 sTrue S || isF 5 sFalse S || isF 6 sUnd S || isF 6 sMinus S || isF 6 sLb S || isF 6 sLp S
def inPatF (pa : Rd → Option (Rd × Int)) (S : Rd) : Option (Rd × Int) := do
  let S1 ← openF S
  let (S2, k) ← pa S1
  req (!isF 6 sCc S2) (do
    let S3 ← closeF S2
    some (S3, k))
def argF (pa : Rd → Option (Rd × Int)) (S : Rd) : Option (Rd × Int) := if patBegF S then pa S else some (S, -1)
def patomF : Nat → Rd → Option (Rd × Int)
  | 0, _ => none
  | n + 1, S => do
    let S1 ← openF S
    req (!isF 6 sUnd S1 && !isF 3 sE S1 && !isF 6 sMinus S1 && !isF 5 sTrue S1 && !isF 5 sFalse S1) (
      if isF 2 sE S1 then (do
        let (S2, t) ← takeF 2 sE S1
        let (S3, a) ← argF (patomF n) S2
        let (S4, k) ← nodeF ⟨34, lis t.s, [], 0, a, 0, 0, hereF S1⟩ S3
        let S5 ← closeF S4
        some (S5, k))
      else req (!isF 6 sLb S1) (
        if isF 6 sLp S1 then (do
          let (S2, _) ← takeF 6 sLp S1
          req (!isF 6 sRp S2) (do
            let (S3, a) ← inPatF (patomF n) S2
            req (isF 6 sComma S3) (do
              let (S4, _) ← takeF 6 sComma S3
              let (S5, b) ← inPatF (patomF n) S4
              let (S6, _) ← takeF 6 sRp S5
              let (S7, k) ← nodeF ⟨33, [], [], 0, a, b, 0, hereF S1⟩ S6
              let S8 ← closeF S7
              some (S8, k))))
        else (do
          let (S2, t) ← takeF 1 sE S1
          let (S3, k) ← nodeF ⟨27, lis t.s, [], 0, 0, 0, 0, hereF S1⟩ S2
          let S4 ← closeF S3
          some (S4, k))))
def patF : Rd → Option (Rd × Int) := inPatF (patomF 10)
def begF (S : Rd) : Bool := isF 3 sE S || isF 4 sE S || isF 2 sE S || isF 1 sE S || isF 5 sTrue S || isF 5 sFalse S || isF 5 sMatch S || isF 5 sTry S || isF 6 sLb S || isF 6 sLp S || isF 6 sBang S
section
variable (ex : Rd → Option (Rd × Int))
def clLoopF : Nat → Rd → List Nod → Option (Rd × List Nod)
  | 0, _, _ => none
  | n + 1, S, acc => do
    let (S1, a) ← patF S
    let (S2, _) ← takeF 6 sArrow S1
    let (S3, b) ← ex S2
    if isF 6 sBar S3 then
      let (S4, _) ← takeF 6 sBar S3
      clLoopF n S4 (acc ++ [⟨19, [], [], 0, a, b, 0, hereF S⟩])
    else some (S3, acc ++ [⟨19, [], [], 0, a, b, 0, hereF S⟩])
def matchF (S : Rd) : Option (Rd × Int) := do
  let (S1, _) ← takeF 5 sMatch S
  let (S2, a) ← ex S1
  let (S3, _) ← takeF 5 sWith S2
  let (S4, acc) ← clLoopF ex 2 S3 []
  let (S5, _) ← takeF 5 sEnd S4
  let (S6, nx) ← backF setC acc.reverse (-1) S5
  nodeF ⟨18, [], [], 0, a, nx, 0, hereF S⟩ S6
def atomOfF (S : Rd) : Option (Rd × Int) :=
  if isF 5 sMatch S then matchF ex S
  else req (!isF 5 sTry S) (
    if isF 3 sE S then (do
      let (S1, t) ← takeF 3 sE S
      req (t.s == sOne) (nodeF ⟨1, [], [], 1, 0, 0, 0, hereF S⟩ S1))
    else req (!isF 4 sE S && !isF 5 sTrue S && !isF 5 sFalse S) (
      if isF 2 sE S then (do
        let (S1, t) ← takeF 2 sE S
        nodeF ⟨6, lis t.s, [], 0, -1, 0, 0, hereF S⟩ S1)
      else req (!isF 6 sLb S && !isF 6 sBang S && !isF 6 sLp S) (do
        let (S1, t) ← takeF 1 sE S
        nodeF ⟨5, lis t.s, [], 0, 0, 0, 0, hereF S⟩ S1)))
def atomF (S : Rd) : Option (Rd × Int) := do
  let S1 ← openF S
  let (S2, k) ← atomOfF ex S1
  let S3 ← closeF S2
  some (S3, k)
def appLoopF : Nat → Rd → Int → Option (Rd × Int)
  | 0, _, _ => none
  | n + 1, S, k =>
    if begF S then (do
      let (S1, b) ← atomF ex S
      let x ← S1.nodes[b.toNat]?
      let (S2, k2) ← nodeF ⟨11, [], [], 0, k, b, 0, x.h⟩ S1
      req (decide (0 ≤ b)) (appLoopF n S2 k2))
    else some (S, k)
def wordOk (S : Rd) : Bool := match S.L[S.at_]? with
  | some t => t.k != 5 || t.s == sMatch
  | none => true
def appF (S : Rd) : Option (Rd × Int) :=
  req (wordOk S) (
    if isF 2 sE S then (do
      let (S1, t) ← takeF 2 sE S
      if begF S1 then
        let (S2, a) ← atomF ex S1
        nodeF ⟨6, lis t.s, [], 0, a, 0, 0, hereF S⟩ S2
      else
        let (S2, k) ← atomF ex S
        appLoopF ex 2 S2 k)
    else (do
      let (S2, k) ← atomF ex S
      appLoopF ex 2 S2 k))
def prodF (S : Rd) : Option (Rd × Int) := do
  let (S1, k) ← appF ex S
  req (!isF 6 sStar S1 && !isF 6 sSlash S1 && !isF 6 sPct S1) (some (S1, k))
def sumF (S : Rd) : Option (Rd × Int) := do
  let (S1, k) ← prodF ex S
  req (!isF 6 sPlus S1 && !isF 6 sMinus S1 && !isF 6 sHat S1) (some (S1, k))
def consF (S : Rd) : Option (Rd × Int) := do
  let S1 ← openF S
  let (S2, k) ← sumF ex S1
  req (!isF 6 sCc S2) (do
    let S3 ← closeF S2
    some (S3, k))
def cmpF (S : Rd) : Option (Rd × Int) := do
  let (S1, k) ← consF ex S
  req (!isF 6 sEq S1 && !isF 6 sLess S1) (some (S1, k))
def setF (S : Rd) : Option (Rd × Int) := do
  let (S1, k) ← cmpF ex S
  req (!isF 6 sSet S1) (some (S1, k))
def exprOfF (S : Rd) : Option (Rd × Int) :=
  if isF 5 sLet S then (do
    let (S1, _) ← takeF 5 sLet S
    req (isF 5 sRec S1) (do
      let (S2, _) ← takeF 5 sRec S1
      let (S3, t) ← takeF 1 sE S2
      let (S4, u) ← takeF 1 sE S3
      let (S5, _) ← takeF 6 sEq S4
      let (S6, a) ← ex S5
      let (S7, _) ← takeF 5 sIn S6
      let (S8, b) ← ex S7
      nodeF ⟨13, lis t.s, lis u.s, 0, a, b, 0, hereF S⟩ S8))
  else if isF 5 sFun S then (do
    let (S1, _) ← takeF 5 sFun S
    req (!isF 6 sUnd S1) (do
      let (S2, t) ← takeF 1 sE S1
      let (S3, _) ← takeF 6 sArrow S2
      let (S4, a) ← ex S3
      nodeF ⟨10, lis t.s, [], 0, a, 0, 0, hereF S⟩ S4))
  else req (!isF 5 sIf S) (do
    let (S1, k) ← setF ex S
    req (!isF 6 sSemi S1) (some (S1, k)))
end
def exprF : Nat → Rd → Option (Rd × Int)
  | 0, _ => none
  | n + 1, S => do
    let S1 ← openF S
    let (S2, k) ← exprOfF (exprF n) S1
    let S3 ← closeF S2
    some (S3, k)
def typesF : Nat → Rd → Option Rd
  | 0, _ => none
  | n + 1, S => if isF 5 sType S then (do
      let S1 ← typF S
      typesF n S1)
    else some S
def treeF (L : List Tok) (en : Int) : Option Tre := do
  let S1 ← typesF 10 ⟨L, en, 0, [], [], 0⟩
  let (S2, k) ← exprF 30 S1
  req (S2.at_ == S2.L.length) (some ⟨S2.nodes, S2.types, k⟩)
def atB (s : ByteArray) (k : Nat) : Int := match s.data[k]? with
  | some x => (x.toNat : Int)
  | none => 0
def runE (p : Int → Bool) (s : ByteArray) : Nat → Nat → Nat
  | 0, j => j
  | n + 1, j => if decide (j < s.size) && p (atB s j) then runE p s n (j + 1) else j
end Go.Proofs.YtphojigdapaaiaaDoor
namespace Go.Proofs.YtphojigdapaaiaaDoor
open Go.ChangeShapes Go.WideShapes Go.ChangeAt Go.RowKit
set_option linter.unusedVariables false
def cI (c : UInt8) : Int := (c.toNat : Int)
inductive Out where
  | skip (n : Nat)
  | tok (κ : Int) (σ : List UInt8) (n : Nat)
  | err
def whileB (p : Int → Bool) (l : List UInt8) : List UInt8 := l.takeWhile (fun c => p (cI c))
def nextB (p : Int → Bool) : List UInt8 → Bool
  | [] => false
  | c :: _ => p (cI c)
def allL : List UInt8 := [32, 108, 101, 116, 32, 114, 101, 99, 32, 105, 110, 32, 102, 117, 110, 32, 105, 102, 32, 116, 104, 101, 110, 32, 101, 108, 115, 101, 32, 109, 97, 116, 99, 104, 32, 119, 105, 116, 104, 32, 101, 110, 100, 32, 116, 114, 121, 32, 114, 97, 105, 115, 101, 32, 116, 121, 112, 101, 32, 111, 102, 32, 116, 114, 117, 101, 32, 102, 97, 108, 115, 101, 32, 114, 101, 102, 32, 101, 109, 105, 116, 32, 108, 111, 103, 32, 115, 101, 110, 100, 32, 114, 101, 99, 118, 32, 115, 105, 122, 101, 32, 98, 121, 116, 101, 32, 116, 101, 120, 116, 32, 115, 97, 109, 101, 32, 97, 114, 114, 97, 121, 32, 103, 101, 116, 32, 112, 117, 116, 32, 108, 101, 110, 32, 105, 110, 116, 32, 98, 111, 111, 108, 32, 117, 110, 105, 116, 32, 115, 116, 114, 105, 110, 103, 32, 108, 105, 115, 116, 32]
def ownAt (σ : List UInt8) (n : Nat) : Bool := (allL.drop n).take (σ.length + 2) == 32 :: (σ ++ [32])
def ownAny (σ : List UInt8) : Nat → Bool
  | 0 => false
  | n + 1 => ownAny σ n || ownAt σ n
def ownL (σ : List UInt8) : Bool := ownAny σ 160
def signs1 : List UInt8 := [40, 41, 91, 93, 44, 59, 124, 95, 33, 61, 43, 42, 47, 37, 94, 60, 45]
def two (c : UInt8) (r : List UInt8) : Bool := (c == 58 && nextB (fun x => x == 61 || x == 58) r) || (c == 45 && nextB (fun x => x == 62) r)
def signN : List UInt8 → Nat
  | [] => 0
  | c :: r => if two c r then 2 else if signs1.contains c then 1 else 0
def stepL : List UInt8 → Option Out
  | [] => none
  | c :: r =>
    if cI c = 32 ∨ cI c = 9 ∨ cI c = 10 then some (.skip 1)
    else if cI c = 35 then none
    else if (sB (cI c) || gB (cI c)) && !(cI c == 95 && !nextB vB r) then
      (if 12 < (c :: whileB vB r).length then some .err else some (.tok (if ownL (c :: whileB vB r) then 5 else if gB (cI c) then 2 else 1) (c :: whileB vB r) (c :: whileB vB r).length))
    else if dB (cI c) then
      (if c :: whileB dB r = [49] then (if nextB (fun x => sB x || gB x) r then some .err else some (.tok 3 [49] 1)) else none)
    else if cI c = 34 then none
    else if signN (c :: r) = 0 then some .err else some (.tok 6 ((c :: r).take (signN (c :: r))) (signN (c :: r)))
def lexL : Nat → List UInt8 → Nat → Option (List Tok)
  | 0, _, _ => none
  | n + 1, l, k => match l with
    | [] => some []
    | _ :: _ => match stepL l with
      | some (.skip m) => lexL n (l.drop m) (k + m)
      | some (.tok κ σ m) => (lexL n (l.drop m) (k + m)).map (⟨κ, ⟨σ.toArray⟩, (k : Int)⟩ :: ·)
      | _ => none
def StepOk (l : List UInt8) (o : Out) : Prop := stepL l = some o ∨ (stepL l = none ∧ ∀ σ n, o ≠ .tok 1 σ n)
def dr (s : ByteArray) (k : Nat) : List UInt8 := (lis s).drop k
theorem dr_size (s : ByteArray) : (lis s).length = s.size := rfl
theorem dr_cons {s : ByteArray} {k : Nat} (h : k < s.size) : dr s k = s[k]'h :: dr s (k + 1) := by
  unfold dr
  rw [List.drop_eq_getElem_cons (show k < (lis s).length from h)]
  rfl
theorem dr_end (s : ByteArray) : dr s s.size = [] := by
  unfold dr
  exact List.drop_eq_nil_of_le (Nat.le_refl _)
theorem dr_drop (s : ByteArray) (k m : Nat) : (dr s k).drop m = dr s (k + m) := by
  unfold dr
  rw [List.drop_drop]
theorem lis_extract (s : ByteArray) (i j : Nat) : lis (s.extract i j) = (dr s i).take (j - i) := by
  unfold dr lis
  rw [ByteArray.data_extract, Array.toList_extract]
theorem nextB_dr (p : Int → Bool) {s : ByteArray} {k : Nat} (h : k < s.size) : nextB p (dr s k) = p (((s[k]'h).toNat : Int)) := by
  rw [dr_cons h]
  rfl
theorem nextB_end (p : Int → Bool) (s : ByteArray) : nextB p (dr s s.size) = false := by
  rw [dr_end]
  rfl
theorem while_dr (p : Int → Bool) {s : ByteArray} {j : Nat} (hj : j ≤ s.size) (he : nextB p (dr s j) = false) : ∀ (d i : Nat), i + d = j → (∀ k (h : k < s.size), i ≤ k → k < j → p (((s[k]'h).toNat : Int)) = true) → whileB p (dr s i) = (dr s i).take d := by
  intro d
  induction d with
  | zero =>
    intro i hi _
    obtain rfl : i = j := by omega
    rw [List.take_zero]
    unfold whileB
    cases hq : dr s i with
    | nil => rfl
    | cons c r =>
      rw [hq] at he
      rw [List.takeWhile_cons, if_neg (by rw [show p (cI c) = false from he]; decide)]
  | succ d ih =>
    intro i hi ha
    have hs : i < s.size := by omega
    have h1 := ih (i + 1) (by omega) (fun k h h1 h2 => ha k h (by omega) h2)
    rw [dr_cons hs, List.take_succ_cons, ← h1]
    unfold whileB
    rw [List.takeWhile_cons, if_pos (show p (cI (s[i]'hs)) = true from ha i hs (Nat.le_refl _) (by omega))]
theorem ownAny_mono (σ : List UInt8) {k : Nat} (h : ownAt σ k = true) : ∀ n, k < n → ownAny σ n = true := by
  intro n
  induction n with
  | zero => intro h1; omega
  | succ n ih =>
    intro h1
    unfold ownAny
    by_cases h2 : k = n
    · subst h2; rw [h]; simp
    · rw [ih (by omega)]; simp
theorem ownAny_none (σ : List UInt8) {k : Nat} (h : ∀ i, k ≤ i → ownAt σ i = false) : ∀ n, k ≤ n → ownAny σ n = ownAny σ k := by
  intro n
  induction n with
  | zero => intro h1; obtain rfl : k = 0 := by omega
            rfl
  | succ n ih =>
    intro h1
    by_cases h2 : k = n + 1
    · subst h2; rfl
    · show (ownAny σ n || ownAt σ n) = _
      rw [ih (by omega), h n (by omega), Bool.or_false]
theorem ownAt_far (σ : List UInt8) (i : Nat) (h : 160 < i + σ.length + 2) : ownAt σ i = false := by
  unfold ownAt
  rw [beq_eq_false_iff_ne]
  intro e
  have h1 := congrArg List.length e
  have h2 : allL.length = 160 := rfl
  simp only [List.length_take, List.length_drop, List.length_cons, List.length_append, List.length_nil, h2] at h1
  omega
end Go.Proofs.YtphojigdapaaiaaDoor
namespace Go.Proofs.YtphojigdapaaiaaDoor
open Go.ChangeShapes Go.WideShapes Go.ChangeAt Go.RowKit
set_option linter.unusedVariables false
set_option linter.unusedSimpArgs false
theorem toL (s : ByteArray) : s.toList = lis s := ByteArray.toList_eq s
theorem lis_append (a b : ByteArray) : lis (a ++ b) = lis a ++ lis b := by
  unfold lis
  rw [ByteArray.data_append, Array.toList_append]
theorem own_cond {all s : ByteArray} (k : Nat) (ha : lis all = allL) : ((all.extract k (k + s.size + 2)).toList == (({ data := #[32] } : ByteArray) ++ s ++ ({ data := #[32] } : ByteArray)).toList) = ownAt (lis s) k := by
  rw [toL, toL, lis_extract, lis_append, lis_append]
  unfold ownAt dr
  rw [ha, show k + s.size + 2 - k = (lis s).length + 2 by rw [dr_size]; omega]
  rfl
set_option maxRecDepth 100000 in
set_option maxHeartbeats 4000000 in
theorem x59 (s : ByteArray) (hs : s.size ≤ 3000) (w : World) : Calls Tryd.prog 59 #[.string s] w (fun e w' => e = .returned (.bool (ownL (lis s))) ∧ Below w.heap.size w w') := by
  go_enter Tryd.func59, Tryd.ntmps59
  go_wp2_with fail
  generalize hall : (ByteArray.mk (List.toArray (List.append _ _))) = all
  have hz : all.size = 160 := by rw [← hall]; rfl
  have HA := Lib.hid (show lis all = allL by rw [← hall]; rfl)
  clear hall
  go_loopw [4] (fun i wr => ∃ k : Nat, k ≤ 160 ∧ i = .int .i64 k ∧ ownAny (lis s) k = false ∧ Below w.heap.size w wr) (fun i _ => 160 - (intOf i).toNat)
  case atStart => exact ⟨0, by omega, rfl, rfl, Below.refl _ _⟩
  case round =>
    obtain ⟨k, hk, rfl, hn, hb⟩ := hrel
    have HB := Lib.hid hb
    have HN := Lib.hid hn
    clear hb hn
    have w1 : wrap64 ((k : Int) + (s.size : Int)) = ((k + s.size : Nat) : Int) := by unfold wrap64; omega
    have w2 : wrap64 (((k + s.size : Nat) : Int) + 2) = ((k + s.size + 2 : Nat) : Int) := by unfold wrap64; omega
    by_cases hlt : k + s.size + 2 ≤ 160
    · have hle : ((k + s.size + 2 : Nat) : Int) ≤ 160 := by omega
      have hk0 : (0 : Int) ≤ (k : Int) := by omega
      have hkk : (k : Int) ≤ (k : Int) + (s.size : Int) + 2 := by omega
      have hkz : (k : Int) + (s.size : Int) + 2 ≤ 160 := by omega
      have hcd := own_cond (s := s) k HA.out
      cases hq : ownAt (lis s) k with
      | true =>
        have HQ := Lib.hid (show ownL (lis s) = true from ownAny_mono _ hq 160 (by omega))
        rw [hq] at hcd
        clear hq
        go_wp2_with fail
        go_ret
        exact ⟨by rw [HQ.out]; rfl, HB.out⟩
      | false =>
        have HQ := Lib.hid (show ownAny (lis s) (k + 1) = false by unfold ownAny; rw [HN.out, hq]; rfl)
        rw [hq] at hcd
        clear hq
        go_wp2_with fail
        exact ⟨⟨k + 1, by omega, by go_num, HQ.out, HB.out⟩, by simp [intOf]; omega⟩
    · have hle : ¬ ((k : Int) + (s.size : Int) + 2 ≤ 160) := by omega
      have HQ := Lib.hid (show ownL (lis s) = false from (ownAny_none _ (fun i hi => ownAt_far _ _ (by rw [dr_size]; omega)) 160 hk).trans HN.out)
      go_wp2_with fail
      go_ret
      exact ⟨by rw [HQ.out]; rfl, HB.out⟩
end Go.Proofs.YtphojigdapaaiaaDoor
namespace Go.Proofs.YtphojigdapaaiaaDoor
open Go.ChangeShapes Go.WideShapes Go.ChangeAt Go.RowKit
set_option linter.unusedVariables false
set_option linter.unusedSimpArgs false
theorem lis_cons {s : ByteArray} (h : 0 < s.size) : lis s = s[0]'h :: dr s 1 := dr_cons (k := 0) h
theorem two_eq {s : ByteArray} (h : 0 < s.size) (h2 : 2 ≤ s.size) : two (s[0]'h) (dr s 1) = (((s.extract 0 2).toList == [58, 61]) || ((s.extract 0 2).toList == [58, 58]) || ((s.extract 0 2).toList == [45, 62])) := by
  rw [toL, lis_extract, show dr s 0 = lis s from rfl, lis_cons h, dr_cons (k := 1) (by omega)]
  generalize s[0]'h = c
  generalize s[1]'(by omega) = d
  show two c (d :: dr s (1 + 1)) = ((([c, d] : List UInt8) == [58, 61]) || (([c, d] : List UInt8) == [58, 58]) || (([c, d] : List UInt8) == [45, 62]))
  have e1 : (cI d == 61) = (d == 61) := by
    by_cases hd : d = 61
    · subst hd; rfl
    · rw [beq_false_of_ne hd]; exact beq_false_of_ne (fun e => hd (UInt8.toNat_inj.1 (by unfold cI at e; show d.toNat = 61; omega)))
  have e2 : (cI d == 58) = (d == 58) := by
    by_cases hd : d = 58
    · subst hd; rfl
    · rw [beq_false_of_ne hd]; exact beq_false_of_ne (fun e => hd (UInt8.toNat_inj.1 (by unfold cI at e; show d.toNat = 58; omega)))
  have e3 : (cI d == 62) = (d == 62) := by
    by_cases hd : d = 62
    · subst hd; rfl
    · rw [beq_false_of_ne hd]; exact beq_false_of_ne (fun e => hd (UInt8.toNat_inj.1 (by unfold cI at e; show d.toNat = 62; omega)))
  unfold two nextB
  simp only [e1, e2, e3, List.cons_beq_cons, show (([] : List UInt8) == []) = true from rfl, Bool.and_true]
  cases (c == 58) <;> cases (d == 61) <;> cases (d == 58) <;> cases (c == 45) <;> cases (d == 62) <;> rfl
theorem two_short {s : ByteArray} (h : 0 < s.size) (h2 : ¬ 2 ≤ s.size) : two (s[0]'h) (dr s 1) = false := by
  have e : dr s 1 = [] := by
    have := dr_end s
    rw [show s.size = 1 by omega] at this
    exact this
  rw [e]
  unfold two nextB
  simp
theorem sign_two {s : ByteArray} (h : 0 < s.size) (h2 : two (s[0]'h) (dr s 1) = true) : signN (lis s) = 2 := by
  rw [lis_cons h]
  simp only [signN]
  rw [if_pos h2]
theorem sign_one {s : ByteArray} (h : 0 < s.size) (h2 : two (s[0]'h) (dr s 1) = false) (h3 : signs1.contains (s[0]'h) = true) : signN (lis s) = 1 := by
  rw [lis_cons h]
  simp only [signN]
  rw [if_neg (by rw [h2]; decide), if_pos h3]
theorem sign_none {s : ByteArray} (h : 0 < s.size) (h2 : two (s[0]'h) (dr s 1) = false) (h3 : signs1.contains (s[0]'h) = false) : signN (lis s) = 0 := by
  rw [lis_cons h]
  simp only [signN]
  rw [if_neg (by rw [h2]; decide), if_neg (by rw [h3]; decide)]
theorem signs_at {k : Nat} {c : UInt8} (h : signs1[k]? = some c) : signs1.contains c = true := List.contains_iff_mem.2 (List.mem_of_getElem? h)
theorem signs_none {c : UInt8} (h : ∀ i, i < 16 → signs1[i]? ≠ some c) (h2 : c ≠ 45) : signs1.contains c = false := by
  rw [Bool.eq_false_iff]
  intro e
  obtain ⟨i, hi⟩ := List.mem_iff_getElem?.1 (List.contains_iff_mem.1 e)
  by_cases h3 : i < 16
  · exact h i h3 hi
  · have h4 : i < signs1.length := (List.getElem?_eq_some_iff.1 hi).1
    have h5 : signs1.length = 17 := rfl
    obtain rfl : i = 16 := by omega
    exact h2 (Option.some.inj hi).symm
set_option maxRecDepth 100000 in
set_option maxHeartbeats 8000000 in
theorem x63 (s : ByteArray) (h1 : 0 < s.size) (hs : s.size ≤ 3000) (w : World) : Calls Tryd.prog 63 #[.string s] w (fun e w' => e = .returned (.int .i64 (signN (lis s) : Int)) ∧ Below w.heap.size w w') := by
  have i1 : (1 : Int) ≤ (s.size : Int) := by omega
  by_cases h2 : 2 ≤ s.size
  · have i2 : (2 : Int) ≤ (s.size : Int) := by omega
    have HT2 := Lib.hid (two_eq h1 h2)
    cases d1 : ((s.extract 0 2).toList == [58, 61]) with
    | true =>
      have HR := Lib.hid (show signN (lis s) = 2 from sign_two h1 (by rw [HT2.out, d1]; rfl))
      go_enter Tryd.func63, Tryd.ntmps63
      go_wp2_with fail
      go_ret
      exact ⟨by rw [HR.out]; rfl, Below.refl _ _⟩
    | false =>
    cases d2 : ((s.extract 0 2).toList == [58, 58]) with
    | true =>
      have HR := Lib.hid (show signN (lis s) = 2 from sign_two h1 (by rw [HT2.out, d1, d2]; rfl))
      go_enter Tryd.func63, Tryd.ntmps63
      go_wp2_with fail
      go_ret
      exact ⟨by rw [HR.out]; rfl, Below.refl _ _⟩
    | false =>
    cases d3 : ((s.extract 0 2).toList == [45, 62]) with
    | true =>
      have HR := Lib.hid (show signN (lis s) = 2 from sign_two h1 (by rw [HT2.out, d1, d2, d3]; rfl))
      go_enter Tryd.func63, Tryd.ntmps63
      go_wp2_with fail
      go_ret
      exact ⟨by rw [HR.out]; rfl, Below.refl _ _⟩
    | false =>
    replace HT2 := Lib.hid (show two (s[0]'h1) (dr s 1) = false by rw [HT2.out, d1, d2, d3]; rfl)
    go_enter Tryd.func63, Tryd.ntmps63
    go_wp2_with fail
    go_loopw [3] (fun i wr => ∃ k : Nat, k ≤ 16 ∧ i = .int .i64 k ∧ (∀ i, i < k → signs1[i]? ≠ some (s[0]'h1)) ∧ Below w.heap.size w wr) (fun i _ => 16 - (intOf i).toNat)
    case atStart => exact ⟨0, by omega, rfl, fun i h => absurd h (Nat.not_lt_zero i), Below.refl _ _⟩
    case round =>
      obtain ⟨k, hk, rfl, hn, hb⟩ := hrel
      have HB := Lib.hid hb
      have HN := Lib.hid hn
      clear hb hn
      by_cases hlt : k < 16
      · have hlk : (k : Int) < 16 := by omega
        have hk0 : (0 : Int) ≤ (k : Int) := by omega
        have hi0 : (0 : Int) < (s.size : Int) := by omega
        go_upto_region 10 with fail
        generalize hq : (ByteArray.mk #[40, 41, 91, 93, 44, 59, 124, 95, 33, 61, 43, 42, 47, 37, 94, 60]) = sg
        have hsg : sg.size = 16 := by rw [← hq]; rfl
        have hks : k < sg.size := by omega
        have HG := Lib.hid (show signs1[k]? = some (sg[k]'hks) by
          have h5 : lis sg = signs1.take 16 := by rw [← hq]; rfl
          have h6 : (lis sg)[k]? = some (sg[k]'hks) := List.getElem?_eq_getElem (l := lis sg) (i := k) hks
          rw [h5, List.getElem?_take, if_pos hlt] at h6
          exact h6)
        clear hq
        have HB2 := Lib.hid (Below.drew HB.out)
        refine wp_region_held_drew (S := fun V => True) (by kernel_rfl) trivial (fun hHeld => ?_)
        refine tkH 0 17 ?_ rfl ?_ ?_
        rotate_left
        · intro V hSw
          go_simp
          try with_reducible rfl
        try simp only [Act.put, sLA, sL0, sL1]
        refine tkH 1 18 ?_ rfl ?_ ?_
        rotate_left
        · intro V hSw
          go_simp
          try with_reducible rfl
        try simp only [Act.put, sLA, sL0, sL1]
        refine tkH 2 19 ?_ rfl ?_ ?_
        rotate_left
        · intro V hSw
          go_simp
          try with_reducible rfl
        try simp only [Act.put, sLA, sL0, sL1]
        refine tkH 3 20 ?_ rfl ?_ ?_
        rotate_left
        · intro V hSw
          go_simp
          try with_reducible rfl
        try simp only [Act.put, sLA, sL0, sL1]
        refine tkH 4 21 ?_ rfl ?_ ?_
        rotate_left
        · intro V hSw
          go_simp
          try with_reducible rfl
        try simp only [Act.put, sLA, sL0, sL1]
        refine wpAnyH_done (by kernel_rfl) ?_ _
        generalize wr.drew = wd at HB2 ⊢
        cases hq : (((sg[k]'hks).toNat : Int) == ((s[0]'h1).toNat : Int)) with
        | true =>
          have hc : sg[k]'hks = s[0]'h1 := UInt8.toNat_inj.1 (by have := beq_iff_eq.1 hq; omega)
          have HR := Lib.hid (show signN (lis s) = 1 from sign_one h1 HT2.out (signs_at (by rw [HG.out, hc])))
          clear hc
          go_wp2_with fail
          go_ret
          exact ⟨by rw [HR.out]; rfl, HB2.out⟩
        | false =>
          have HK := Lib.hid (show ∀ i, i < k + 1 → signs1[i]? ≠ some (s[0]'h1) from fun i hi => by
            by_cases h3 : i < k
            · exact HN.out i h3
            · obtain rfl : i = k := by omega
              rw [HG.out]
              intro e
              rw [Option.some.inj e] at hq
              simp at hq)
          go_wp2_with fail
          exact ⟨⟨k + 1, by omega, by go_num, HK.out, HB2.out⟩, by simp [intOf]; omega⟩
      · obtain rfl : k = 16 := by omega
        have hi0 : (0 : Int) < (s.size : Int) := by omega
        cases hq : (((s[0]'h1).toNat : Int) == 45) with
        | true =>
          have hc : s[0]'h1 = 45 := UInt8.toNat_inj.1 (by have := beq_iff_eq.1 hq; show _ = 45; omega)
          have HR := Lib.hid (show signN (lis s) = 1 from sign_one h1 HT2.out (by rw [hc]; rfl))
          clear hc
          go_wp2_with fail
          go_ret
          exact ⟨by rw [HR.out]; rfl, HB.out⟩
        | false =>
          have HR := Lib.hid (show signN (lis s) = 0 from sign_none h1 HT2.out (signs_none HN.out (fun e => by rw [e] at hq; cases hq)))
          go_wp2_with fail
          go_ret
          exact ⟨by rw [HR.out]; rfl, HB.out⟩
  · have i2 : ¬ (2 : Int) ≤ (s.size : Int) := by omega
    have HT2 := Lib.hid (two_short h1 h2)
    go_enter Tryd.func63, Tryd.ntmps63
    go_wp2_with fail
    go_loopw [3] (fun i wr => ∃ k : Nat, k ≤ 16 ∧ i = .int .i64 k ∧ (∀ i, i < k → signs1[i]? ≠ some (s[0]'h1)) ∧ Below w.heap.size w wr) (fun i _ => 16 - (intOf i).toNat)
    case atStart => exact ⟨0, by omega, rfl, fun i h => absurd h (Nat.not_lt_zero i), Below.refl _ _⟩
    case round =>
      obtain ⟨k, hk, rfl, hn, hb⟩ := hrel
      have HB := Lib.hid hb
      have HN := Lib.hid hn
      clear hb hn
      by_cases hlt : k < 16
      · have hlk : (k : Int) < 16 := by omega
        have hk0 : (0 : Int) ≤ (k : Int) := by omega
        have hi0 : (0 : Int) < (s.size : Int) := by omega
        go_upto_region 10 with fail
        generalize hq : (ByteArray.mk #[40, 41, 91, 93, 44, 59, 124, 95, 33, 61, 43, 42, 47, 37, 94, 60]) = sg
        have hsg : sg.size = 16 := by rw [← hq]; rfl
        have hks : k < sg.size := by omega
        have HG := Lib.hid (show signs1[k]? = some (sg[k]'hks) by
          have h5 : lis sg = signs1.take 16 := by rw [← hq]; rfl
          have h6 : (lis sg)[k]? = some (sg[k]'hks) := List.getElem?_eq_getElem (l := lis sg) (i := k) hks
          rw [h5, List.getElem?_take, if_pos hlt] at h6
          exact h6)
        clear hq
        have HB2 := Lib.hid (Below.drew HB.out)
        refine wp_region_held_drew (S := fun V => True) (by kernel_rfl) trivial (fun hHeld => ?_)
        refine tkH 0 17 ?_ rfl ?_ ?_
        rotate_left
        · intro V hSw
          go_simp
          try with_reducible rfl
        try simp only [Act.put, sLA, sL0, sL1]
        refine tkH 1 18 ?_ rfl ?_ ?_
        rotate_left
        · intro V hSw
          go_simp
          try with_reducible rfl
        try simp only [Act.put, sLA, sL0, sL1]
        refine tkH 2 19 ?_ rfl ?_ ?_
        rotate_left
        · intro V hSw
          go_simp
          try with_reducible rfl
        try simp only [Act.put, sLA, sL0, sL1]
        refine tkH 3 20 ?_ rfl ?_ ?_
        rotate_left
        · intro V hSw
          go_simp
          try with_reducible rfl
        try simp only [Act.put, sLA, sL0, sL1]
        refine tkH 4 21 ?_ rfl ?_ ?_
        rotate_left
        · intro V hSw
          go_simp
          try with_reducible rfl
        try simp only [Act.put, sLA, sL0, sL1]
        refine wpAnyH_done (by kernel_rfl) ?_ _
        generalize wr.drew = wd at HB2 ⊢
        cases hq : (((sg[k]'hks).toNat : Int) == ((s[0]'h1).toNat : Int)) with
        | true =>
          have hc : sg[k]'hks = s[0]'h1 := UInt8.toNat_inj.1 (by have := beq_iff_eq.1 hq; omega)
          have HR := Lib.hid (show signN (lis s) = 1 from sign_one h1 HT2.out (signs_at (by rw [HG.out, hc])))
          clear hc
          go_wp2_with fail
          go_ret
          exact ⟨by rw [HR.out]; rfl, HB2.out⟩
        | false =>
          have HK := Lib.hid (show ∀ i, i < k + 1 → signs1[i]? ≠ some (s[0]'h1) from fun i hi => by
            by_cases h3 : i < k
            · exact HN.out i h3
            · obtain rfl : i = k := by omega
              rw [HG.out]
              intro e
              rw [Option.some.inj e] at hq
              simp at hq)
          go_wp2_with fail
          exact ⟨⟨k + 1, by omega, by go_num, HK.out, HB2.out⟩, by simp [intOf]; omega⟩
      · obtain rfl : k = 16 := by omega
        have hi0 : (0 : Int) < (s.size : Int) := by omega
        cases hq : (((s[0]'h1).toNat : Int) == 45) with
        | true =>
          have hc : s[0]'h1 = 45 := UInt8.toNat_inj.1 (by have := beq_iff_eq.1 hq; show _ = 45; omega)
          have HR := Lib.hid (show signN (lis s) = 1 from sign_one h1 HT2.out (by rw [hc]; rfl))
          clear hc
          go_wp2_with fail
          go_ret
          exact ⟨by rw [HR.out]; rfl, HB.out⟩
        | false =>
          have HR := Lib.hid (show signN (lis s) = 0 from sign_none h1 HT2.out (signs_none HN.out (fun e => by rw [e] at hq; cases hq)))
          go_wp2_with fail
          go_ret
          exact ⟨by rw [HR.out]; rfl, HB.out⟩
end Go.Proofs.YtphojigdapaaiaaDoor
namespace Go.Proofs.YtphojigdapaaiaaDoor
open Go.ChangeShapes Go.WideShapes Go.ChangeAt Go.RowKit
set_option linter.unusedVariables false
set_option linter.unusedSectionVars false
theorem StepOk.none_ {l : List UInt8} {o : Out} (h : stepL l = none) (ho : ∀ σ n, o ≠ .tok 1 σ n) : StepOk l o := .inr ⟨h, ho⟩
theorem StepOk.det {l : List UInt8} {o o' : Out} (h : StepOk l o) (h' : stepL l = some o') : o = o' := by
  rcases h with h | ⟨h, _⟩
  · rw [h] at h'; exact Option.some.inj h'
  · rw [h] at h'; cases h'
theorem StepOk.name {l : List UInt8} {σ : List UInt8} {n : Nat} (h : StepOk l (.tok 1 σ n)) : stepL l = some (.tok 1 σ n) := by
  rcases h with h | ⟨_, h⟩
  · exact h
  · exact absurd rfl (h σ n)
section
variable {s : ByteArray} {k : Nat} {x : Int} (hlt : k < s.size) (hx : ((s[k]'hlt).toNat : Int) = x)
include hx
theorem step_space (h : x = 32 ∨ x = 9 ∨ x = 10) : StepOk (dr s k) (.skip 1) := by
  refine .inl ?_
  rw [dr_cons hlt]
  simp only [stepL]
  rw [if_pos (show cI (s[k]'hlt) = 32 ∨ cI (s[k]'hlt) = 9 ∨ cI (s[k]'hlt) = 10 from by unfold cI; rw [hx]; exact h)]
theorem step_hash (h : x = 35) (o : Out) (ho : ∀ σ n, o ≠ .tok 1 σ n) : StepOk (dr s k) o := by
  refine .none_ ?_ ho
  rw [dr_cons hlt]
  have hc : cI (s[k]'hlt) = 35 := by unfold cI; rw [hx]; exact h
  simp only [stepL, hc]
  rfl
theorem step_quote (h : x = 34) (o : Out) (ho : ∀ σ n, o ≠ .tok 1 σ n) : StepOk (dr s k) o := by
  refine .none_ ?_ ho
  rw [dr_cons hlt]
  have hc : cI (s[k]'hlt) = 34 := by unfold cI; rw [hx]; exact h
  simp only [stepL, hc]
  rfl
theorem take_run (p : Int → Bool) {j : Nat} (hj : k < j) (hs : j ≤ s.size) (ha : ∀ i (h : i < s.size), k < i → i < j → p ((s[i]'h).toNat : Int) = true) (he : nextB p (dr s j) = false) :
    s[k]'hlt :: whileB p (dr s (k + 1)) = lis (s.extract k j) := by
  have h1 := while_dr p hs he (j - (k + 1)) (k + 1) (by omega) (fun i h h1 h2 => ha i h (by omega) h2)
  rw [h1, lis_extract, dr_cons hlt, show j - k = (j - (k + 1)) + 1 by omega, List.take_succ_cons]
theorem lis_len {i j : Nat} (h : i ≤ j) (hs : j ≤ s.size) : (lis (s.extract i j)).length = j - i := by
  rw [dr_size, ByteArray.size_extract]
  omega
theorem step_word (hc : (97 ≤ x ∧ x ≤ 122) ∨ (65 ≤ x ∧ x ≤ 90) ∨ (x = 95 ∧ nextB vB (dr s (k + 1)) = true)) {j : Nat} (hj : k < j) (hs : j ≤ s.size)
    (ha : ∀ i (h : i < s.size), k < i → i < j → vB ((s[i]'h).toNat : Int) = true) (he : nextB vB (dr s j) = false) :
    stepL (dr s k) = if 12 < j - k then some .err else some (.tok (if ownL (lis (s.extract k j)) then 5 else if gB x then 2 else 1) (lis (s.extract k j)) (j - k)) := by
  have h1 := take_run hlt hx vB hj hs ha he
  have h2 := lis_len hlt hx (Nat.le_of_lt hj) hs
  rw [dr_cons hlt]
  have hcx : cI (s[k]'hlt) = x := hx
  simp only [stepL, h1, h2, hcx]
  rw [if_neg (by omega), if_neg (by omega), if_pos]
  rcases hc with hc | hc | hc
  · rw [show sB x = true by simp [sB, hc.1, hc.2], show (x == 95) = false from beq_false_of_ne (by omega)]; rfl
  · rw [show gB x = true by simp [gB, hc.1, hc.2], show (x == 95) = false from beq_false_of_ne (by omega)]; simp
  · rw [hc.2, hc.1]; rfl
theorem step_one (hc : 48 ≤ x ∧ x ≤ 57) {j : Nat} (hj : k < j) (hs : j ≤ s.size) (ha : ∀ i (h : i < s.size), k < i → i < j → dB ((s[i]'h).toNat : Int) = true) (he : nextB dB (dr s j) = false) :
    stepL (dr s k) = if lis (s.extract k j) = [49] then (if nextB (fun x => sB x || gB x) (dr s j) then some .err else some (.tok 3 [49] 1)) else none := by
  have h1 := take_run hlt hx dB hj hs ha he
  have h2 := lis_len hlt hx (Nat.le_of_lt hj) hs
  rw [dr_cons hlt]
  have hcx : cI (s[k]'hlt) = x := hx
  have e95 : (x == 95) = false := beq_false_of_ne (by omega)
  have hsb : sB x = false := by unfold sB; rw [e95, decide_eq_false (show ¬ 97 ≤ x by omega)]; rfl
  have hgb : gB x = false := by unfold gB; rw [decide_eq_false (show ¬ 65 ≤ x by omega)]; rfl
  have hdb : dB x = true := by simp [dB, hc.1, hc.2]
  simp only [stepL, h1, hcx]
  rw [if_neg (by omega), if_neg (by omega), if_neg (by rw [hsb, hgb]; exact Bool.false_ne_true), if_pos hdb]
  by_cases h3 : lis (s.extract k j) = [49]
  · rw [if_pos h3, if_pos h3]
    have h4 : j = k + 1 := by
      have := congrArg List.length h3
      rw [h2] at this
      simp only [List.length_cons, List.length_nil] at this
      omega
    rw [h4]
  · rw [if_neg h3, if_neg h3]
theorem step_sign (hw : ¬ (x = 32 ∨ x = 9 ∨ x = 10)) (h35 : x ≠ 35) (hl : ((sB x || gB x) && !(x == 95 && !nextB vB (dr s (k + 1)))) = false) (hd : dB x = false) (h34 : x ≠ 34) {n : Nat} (hn : n = signN (lis (s.extract k s.size))) :
    stepL (dr s k) = if n = 0 then some .err else some (.tok 6 (lis (s.extract k (k + n))) n) := by
  have hcx : cI (s[k]'hlt) = x := hx
  have h1 : lis (s.extract k s.size) = dr s k := by
    rw [lis_extract, List.take_of_length_le]
    unfold dr
    rw [List.length_drop, dr_size]
    omega
  rw [h1] at hn
  rw [lis_extract, show k + n - k = n by omega]
  rw [dr_cons hlt] at hn ⊢
  simp only [stepL, hcx]
  rw [if_neg hw, if_neg h35, if_neg (by rw [hl]; decide), if_neg (by rw [hd]; decide), if_neg h34, ← hn]
end
end Go.Proofs.YtphojigdapaaiaaDoor
namespace Go.Proofs.YtphojigdapaaiaaDoor
open Go.ChangeShapes Go.WideShapes Go.ChangeAt Go.RowKit
set_option linter.unusedVariables false
set_option linter.unusedSimpArgs false
def TokTEnd (s : ByteArray) (w : World) (e : Ending) (w' : World) : Prop := ∃ (q : ByteArray) (n : Nat), e = .returned (.agg #[.string q, .int .i64 (n : Int)]) ∧ n ≤ s.size ∧ Below w.heap.size w w'
set_option maxRecDepth 100000 in
set_option maxHeartbeats 8000000 in
theorem c62 (s : ByteArray) (h1 : 1 ≤ s.size) (hs : s.size ≤ 3000) (w : World) : Calls Tryd.prog 62 #[.string s] w (TokTEnd s w) := by
  obtain ⟨i5, fi5, hz0, hz1, hz2⟩ := info_parts u8_info
  have H5 := Lib.hid (show i5.zero = some (.int .u8 0) ∧ i5.size = 1 ∧ i5.bytes = 1 from ⟨hz0, hz1, hz2⟩)
  clear hz0 hz1 hz2
  have hR := Blk.new w 115 #[.string ⟨#[]⟩, .int .i64 0]
  have hB := below_new w (.cells #[.string ⟨#[]⟩, .int .i64 0] 115)
  have hlt0 := hR.lt
  go_enter Tryd.func62, Tryd.ntmps62
  go_upto_region 1 with fail
  generalize w.alloc (.cells #[.string ⟨#[]⟩, .int .i64 0] 115) = w1 at hR hB hlt0 ⊢
  have HR := Lib.hid hR
  have HB0 := Lib.hid hB
  generalize hrb : w.heap.size = rb at HR hlt0 ⊢
  have HLE := Lib.hid (show w.heap.size ≤ rb by omega)
  have HLT := Lib.hid hlt0
  clear hR hB hrb hlt0
  go_wp2_with fail
  go_loopw [3, 4] (fun b i wr => ∃ (k : Nat) (L : List UInt8) (A : Option Addr) (c : Nat), 1 ≤ k ∧ k ≤ s.size ∧ i = .int .i64 k ∧ b = .slice A L.length c ∧ BRow w1 wr A c L ∧ L.length ≤ k) (fun _ i _ => s.size - (intOf i).toNat)
  case atStart => exact ⟨1, [], none, 0, by omega, by omega, rfl, rfl, ⟨⟨rfl, .inl ⟨rfl, rfl⟩⟩, Below.refl _ _⟩, by simp⟩
  case round =>
    obtain ⟨k, L, A, c, hk1, hk, rfl, rfl, hb, hL⟩ := hrel
    have HB := Lib.hid hb
    have HL := Lib.hid (show L.length ≤ 3000 by omega)
    have HL2 := Lib.hid hL
    have HRr := Lib.hid (HR.out.below hb.low HLT.out)
    have HBR := Lib.hid (next_ HB0.out hb.low)
    have hcv := run_conv (c := c) rfl (Reads.of_own hb.own)
    have r0 : wr.cell? ⟨rb, 0, none⟩ = some (.string ⟨#[]⟩) := HRr.out.cell 0
    have r1 : wr.cell? ⟨rb, 1, none⟩ = some (.int .i64 0) := HRr.out.cell 1
    have f0 := HRr.out.frozen 0
    have f1 := HRr.out.frozen 1
    clear hb hL
    by_cases hlt : k < s.size
    · have hlk : (k : Int) < (s.size : Int) := by omega
      have hk0 : (0 : Int) ≤ (k : Int) := by omega
      by_cases hlt2 : k + 1 < s.size
      · have hlk2 : (k : Int) + 1 < (s.size : Int) := by omega
        have hne2 : ((k : Int) + 1 == (s.size : Int)) = false := beq_false_of_ne (by omega)
        have hk02 : (0 : Int) ≤ (k : Int) + 1 := by omega
        have htn : ((k : Int) + 1).toNat = k + 1 := by omega
        go_wp2_with (first | (at_builtin; refine wpList_append_any _ rfl (.tmp 49) (.tmp 50) 40 rfl w1.heap.size 5 i5 _ 1 1 Tryd.underlying40 fi5 H5.out.1 H5.out.2.1 H5.out.2.2 rfl (by omega) (.slice A L.length c) L.length (cellsB L) rfl (own_next HB.out.own (below_new _ _)) (wr.heap.size + 1) (some ⟨wr.heap.size, 0, none⟩) 1 1 (cellsB [10]) rfl (newB wr [10]) (cellsB_one _) (by unfold maxLen; have := HL.out; omega) (by have := HL.out; omega) (by rw [World.size_alloc]; have := HB.out.low.size; omega) ?_; intro v1 w7 oA gA nA; obtain ⟨A1, c1, rfl, hB1⟩ := HB.out.push oA gA; have HB1 := Lib.hid hB1; clear oA gA nA hB1) | (at_builtin; refine wpList_append_any _ rfl (.tmp 55) (.tmp 59) 40 rfl w1.heap.size 5 i5 _ 1 1 Tryd.underlying40 fi5 H5.out.1 H5.out.2.1 H5.out.2.2 rfl (by omega) (.slice A L.length c) L.length (cellsB L) rfl (own_next HB.out.own (below_new _ _)) (wr.heap.size + 1) (some ⟨wr.heap.size, 0, none⟩) 1 1 (cellsB [s[k + 1]]) rfl (newB wr [s[k + 1]]) (cellsB_one _) (by unfold maxLen; have := HL.out; omega) (by have := HL.out; omega) (by rw [World.size_alloc]; have := HB.out.low.size; omega) ?_; intro v1 w7 oA gA nA; obtain ⟨A1, c1, rfl, hB1⟩ := HB.out.push oA gA; have HB1 := Lib.hid hB1; clear oA gA nA hB1) | (at_builtin; refine wpList_append_any _ rfl (.tmp 11) (.tmp 15) 40 rfl w1.heap.size 5 i5 _ 1 1 Tryd.underlying40 fi5 H5.out.1 H5.out.2.1 H5.out.2.2 rfl (by omega) (.slice A L.length c) L.length (cellsB L) rfl (own_next HB.out.own (below_new _ _)) (wr.heap.size + 1) (some ⟨wr.heap.size, 0, none⟩) 1 1 (cellsB [s[k]]) rfl (newB wr [s[k]]) (cellsB_one _) (by unfold maxLen; have := HL.out; omega) (by have := HL.out; omega) (by rw [World.size_alloc]; have := HB.out.low.size; omega) ?_; intro v1 w7 oA gA nA; obtain ⟨A1, c1, rfl, hB1⟩ := HB.out.push oA gA; have HB1 := Lib.hid hB1; clear oA gA nA hB1))
        all_goals first
          | exact bodyPost_ret (results_cell_row rfl _ _ _ 115 _ (0, 0) _ rfl (row2 HRr.out) Tryd.underlying115 rfl (by kernel_rfl)) rfl ⟨_, 0, by first | rfl | go_num, Nat.zero_le _, low2 HLE.out HBR.out⟩
          | exact bodyPost_ret (results_cell_row rfl _ _ _ 115 _ (0, 0) _ rfl (row2 HRr.out) Tryd.underlying115 rfl (by kernel_rfl)) rfl ⟨_, k + 1, by first | rfl | go_num, by omega, low2 HLE.out HBR.out⟩
          | exact ⟨⟨k + 1, _, A1, c1, by omega, by omega, by go_num, by rw [List.length_append]; rfl, HB1.out, by have := HL2.out; rw [List.length_append]; simp only [List.length_cons, List.length_nil]; omega⟩, by simp [intOf]; omega⟩
          | exact ⟨⟨k + 2, _, A1, c1, by omega, by omega, by go_num, by rw [List.length_append]; rfl, HB1.out, by have := HL2.out; rw [List.length_append]; simp only [List.length_cons, List.length_nil]; omega⟩, by simp [intOf]; omega⟩
      · have hlk2 : ¬ (k : Int) + 1 < (s.size : Int) := by omega
        have heq2 : ((k : Int) + 1 == (s.size : Int)) = true := beq_iff_eq.2 (by omega)
        go_wp2_with (first | (at_builtin; refine wpList_append_any _ rfl (.tmp 11) (.tmp 15) 40 rfl w1.heap.size 5 i5 _ 1 1 Tryd.underlying40 fi5 H5.out.1 H5.out.2.1 H5.out.2.2 rfl (by omega) (.slice A L.length c) L.length (cellsB L) rfl (own_next HB.out.own (below_new _ _)) (wr.heap.size + 1) (some ⟨wr.heap.size, 0, none⟩) 1 1 (cellsB [s[k]]) rfl (newB wr [s[k]]) (cellsB_one _) (by unfold maxLen; have := HL.out; omega) (by have := HL.out; omega) (by rw [World.size_alloc]; have := HB.out.low.size; omega) ?_; intro v1 w7 oA gA nA; obtain ⟨A1, c1, rfl, hB1⟩ := HB.out.push oA gA; have HB1 := Lib.hid hB1; clear oA gA nA hB1))
        all_goals first
          | exact bodyPost_ret (results_cell_row rfl _ _ _ 115 _ (0, 0) _ rfl (row2 HRr.out) Tryd.underlying115 rfl (by kernel_rfl)) rfl ⟨_, 0, by first | rfl | go_num, Nat.zero_le _, low2 HLE.out HBR.out⟩
          | exact bodyPost_ret (results_cell_row rfl _ _ _ 115 _ (0, 0) _ rfl (row2 HRr.out) Tryd.underlying115 rfl (by kernel_rfl)) rfl ⟨_, k + 1, by first | rfl | go_num, by omega, low2 HLE.out HBR.out⟩
          | exact ⟨⟨k + 1, _, A1, c1, by omega, by omega, by go_num, by rw [List.length_append]; rfl, HB1.out, by have := HL2.out; rw [List.length_append]; simp only [List.length_cons, List.length_nil]; omega⟩, by simp [intOf]; omega⟩
          | exact ⟨⟨k + 2, _, A1, c1, by omega, by omega, by go_num, by rw [List.length_append]; rfl, HB1.out, by have := HL2.out; rw [List.length_append]; simp only [List.length_cons, List.length_nil]; omega⟩, by simp [intOf]; omega⟩
    · obtain rfl : k = s.size := by omega
      have hlk : ¬ ((s.size : Int) < (s.size : Int)) := by omega
      go_wp2_with fail
      all_goals exact bodyPost_ret (results_cell_row rfl _ _ _ 115 _ (0, 0) _ rfl (row2 HRr.out) Tryd.underlying115 rfl (by kernel_rfl)) rfl ⟨_, 0, by first | rfl | go_num, Nat.zero_le _, low2 HLE.out HBR.out⟩
end Go.Proofs.YtphojigdapaaiaaDoor
namespace Go.Proofs.YtphojigdapaaiaaDoor
open Go.ChangeShapes Go.WideShapes Go.ChangeAt Go.RowKit
set_option linter.unusedVariables false
set_option linter.unusedSimpArgs false
def blockOf (n : Nat) : Code → Option Code
  | .block m c => if m = n then some (.block m c) else blockOf n c
  | .seq a b => match blockOf n a with
    | some c => some c
    | none => blockOf n b
  | .cond _ a b => match blockOf n a with
    | some c => some c
    | none => blockOf n b
  | .loop c => blockOf n c
  | .scope c => blockOf n c
  | _ => none
theorem run_field112 (v : Int) (r : Bool) (w : World) : (Instr.field 112 (.agg #[.int .i64 v, .bool r]) 1).run Tryd.prog w = .ok (.bool r) w := by
  kernel_rfl
noncomputable def block43 (n : Nat) : Code := ((Tryd.f43.body).bind (blockOf n)).getD .skip
end Go.Proofs.YtphojigdapaaiaaDoor
namespace Go.Proofs.YtphojigdapaaiaaDoor
open Go.ChangeShapes Go.WideShapes Go.ChangeAt Go.RowKit
set_option linter.unusedVariables false
set_option linter.unusedSimpArgs false
theorem Reads.tokAt {w : World} {B n : Nat} {A : Option Addr} {l : List Tok} (h : Reads w B 3 A n (l.flatMap tokC)) {k : Nat} {p : Tok} (hk : l[k]? = some p) :
    ∃ ad, A = some ad ∧ ad.block < B ∧ ∀ j v, (tokC p)[j]? = some v → w.cell? ((ad.add (k * 3)).add j) = some v :=
  Reads.rowAt (f := tokC) (m := 3) (fun _ => rfl) h (by decide) hk
theorem Reads.tokF {w : World} {B n : Nat} {A : Option Addr} {l : List Tok} (h : Reads w B 3 A n (l.flatMap tokC)) {k : Nat} {p : Tok} (hk : l[k]? = some p) :
    ∃ ad, A = some ad ∧ w.cell? (ad.add (k * 3)) = some (.int .i64 p.k) ∧ w.cell? ⟨(ad.add (k * 3)).block, (ad.add (k * 3)).off + 1, none⟩ = some (.string p.s) ∧ w.cell? ⟨(ad.add (k * 3)).block, (ad.add (k * 3)).off + 2, none⟩ = some (.int .i64 p.at_) ∧
      ∀ j v, (tokC p)[j]? = some v → w.cell? ((ad.add (k * 3)).add j) = some v := by
  obtain ⟨ad, rfl, _, hcs⟩ := h.tokAt hk
  refine ⟨ad, rfl, ?_⟩
  generalize ad.add (k * 3) = q at hcs ⊢
  refine ⟨?_, ?_, ?_, hcs⟩
  · have h0 := hcs 0 _ rfl
    simpa [Addr.add] using h0
  · have h0 := hcs 1 _ rfl
    simpa [Addr.add] using h0
  · have h0 := hcs 2 _ rfl
    simpa [Addr.add] using h0
section
variable {B : Nat} {AL : Option Addr} {cL g : Nat} {S : Rd} {R : Rw} {w : World}
theorem empty_beq (s : ByteArray) : (s == ⟨#[]⟩) = s.toList.isEmpty := by
  rw [beq_toListBytes]
  have : (ByteArray.mk #[]).toList = [] := ByteArray.toList_mk []
  rw [this]
  cases s.toList <;> rfl
set_option maxRecDepth 100000 in
set_option maxHeartbeats 8000000 in
theorem c48 (h : RdSt B AL cL g S R w) : Calls Tryd.prog 48 #[ptr g] w fun e w' => e = .returned (.int .i64 (hereF S)) ∧ Below w.heap.size w w' := by
  have HS := Lib.hid h
  have HB := Lib.hid (Below.refl w.heap.size w)
  have g0 := HS.out.g0
  have g1 := HS.out.g1
  have g2 := HS.out.g2
  clear h
  dsimp only [ptr]
  by_cases hlt : S.at_ < S.L.length
  · have hk : S.L[S.at_]? = some S.L[S.at_] := List.getElem?_eq_getElem hlt
    have E := Lib.hid (show hereF S = (S.L[S.at_]).at_ by unfold hereF; rw [hk])
    have i1 : (S.at_ : Int) < (S.L.length : Int) := by omega
    have i0 : (0 : Int) ≤ (S.at_ : Int) := by omega
    have HK := Lib.hid hk
    clear hk
    go_enter Tryd.func48, Tryd.ntmps48
    go_wp2_with fail
    go_quiet (fail)
    have HS1 := Lib.hid (HS.out.drewN nq)
    have HB1 := Lib.hid (below_drewN HB.out nq)
    clear g0 g1 g2
    generalize w.drewN nq = w1 at HS1 HB1 ⊢
    clear nq
    have g0 := HS1.out.g0
    have g1 := HS1.out.g1
    obtain ⟨ad, rfl, a0, a1, a2, _⟩ := HS1.out.tok.tokF HK.out
    go_wp2_with fail
    go_quiet (fail)
    go_wp2_with fail
    go_ret
    exact ⟨by rw [E.out]; rfl, below_drewN HB1.out _⟩
  · have hk : S.L[S.at_]? = none := List.getElem?_eq_none (by omega)
    have E := Lib.hid (show hereF S = S.en by unfold hereF; rw [hk])
    have i1 : ¬ (S.at_ : Int) < (S.L.length : Int) := by omega
    clear hk
    go_enter Tryd.func48, Tryd.ntmps48
    go_wp2_with fail
    go_quiet (fail)
    go_wp2_with fail
    go_ret
    exact ⟨by rw [E.out]; rfl, below_drewN HB.out _⟩
set_option maxRecDepth 100000 in
set_option maxHeartbeats 8000000 in
theorem c64 (k : Int) (s : ByteArray) (h : RdSt B AL cL g S R w) : Calls Tryd.prog 64 #[ptr g, .int .i64 k, .string s] w fun e w' => e = .returned (.bool (isF k s S)) ∧ Below w.heap.size w w' := by
  have HS := Lib.hid h
  have HB := Lib.hid (Below.refl w.heap.size w)
  have g0 := HS.out.g0
  have g1 := HS.out.g1
  have g7 := HS.out.g7
  clear h
  dsimp only [ptr]
  by_cases hlt : S.at_ < S.L.length
  case neg =>
    have hk : S.L[S.at_]? = none := List.getElem?_eq_none (by omega)
    have E := Lib.hid (show isF k s S = false by unfold isF; rw [hk])
    have i1 : ¬ (S.at_ : Int) < (S.L.length : Int) := by omega
    clear hk
    go_enter Tryd.func64, Tryd.ntmps64
    go_wp2_with fail
    go_quiet (fail)
    go_wp2_with fail
    go_ret
    exact ⟨by rw [E.out]; rfl, below_drewN HB.out _⟩
  have hk : S.L[S.at_]? = some S.L[S.at_] := List.getElem?_eq_getElem hlt
  obtain ⟨p, hp⟩ : ∃ p, p = S.L[S.at_] := ⟨_, rfl⟩
  rw [← hp] at hk
  clear hp
  have i1 : (S.at_ : Int) < (S.L.length : Int) := by omega
  have i0 : (0 : Int) ≤ (S.at_ : Int) := by omega
  obtain ⟨ad, rfl, a0, a1, a2, _⟩ := HS.out.tok.tokF hk
  have HK := Lib.hid hk
  clear hk
  cases hq : (p.k == k) with
  | false =>
    have E := Lib.hid (show isF k s S = false by unfold isF; rw [HK.out]; simp only [hq, Bool.false_and])
    go_enter Tryd.func64, Tryd.ntmps64
    go_wp2_with fail
    go_quiet (fail)
    go_wp2_with fail
    go_ret
    exact ⟨by rw [E.out]; rfl, below_drewN HB.out _⟩
  | true =>
    have he : (s == ⟨#[]⟩) = s.toList.isEmpty := empty_beq s
    cases hs : s.toList.isEmpty with
    | true =>
      rw [hs] at he
      have E := Lib.hid (show isF k s S = true by unfold isF; rw [HK.out]; simp only [hq, he, Bool.true_and, Bool.true_or])
      clear he
      go_enter Tryd.func64, Tryd.ntmps64
      go_wp2_with fail
      go_quiet (fail)
      go_wp2_with fail
      go_ret
      exact ⟨by rw [E.out]; rfl, below_drewN HB.out _⟩
    | false =>
      rw [hs] at he
      have E := Lib.hid (show isF k s S = (p.s.toList == s.toList) by unfold isF; rw [HK.out]; simp only [hq, he, Bool.true_and, Bool.false_or]; exact beq_toListBytes _ _)
      clear he
      go_enter Tryd.func64, Tryd.ntmps64
      go_wp2_with fail
      go_quiet (fail)
      go_wp2_with fail
      go_ret
      exact ⟨by rw [E.out]; rfl, below_drewN HB.out _⟩
set_option maxRecDepth 100000 in
set_option maxHeartbeats 8000000 in
theorem c67 (s : ByteArray) (h : RdSt B AL cL g S R w) : Calls Tryd.prog 67 #[ptr g, .string s] w fun e w' => e = .returned (.bool (isF 6 s S)) ∧ Below w.heap.size w w' := by
  have HC := Lib.hid (c64 6 s h)
  clear h
  dsimp only [ptr]
  go_enter Tryd.func67, Tryd.ntmps67
  go_wp2_with fail
  refine HC.out.mono ?_
  rintro e w1 ⟨rfl, hb⟩
  have HB := Lib.hid hb
  clear hb HC
  go_wp2_with fail
  go_ret
  exact ⟨rfl, HB.out⟩
set_option maxRecDepth 100000 in
set_option maxHeartbeats 8000000 in
theorem c44 (s : ByteArray) (h : RdSt B AL cL g S R w) : Calls Tryd.prog 44 #[ptr g, .string s] w fun e w' => e = .returned (.bool (isF 5 s S)) ∧ Below w.heap.size w w' := by
  have HC := Lib.hid (c64 5 s h)
  clear h
  dsimp only [ptr]
  go_enter Tryd.func44, Tryd.ntmps44
  go_wp2_with fail
  refine HC.out.mono ?_
  rintro e w1 ⟨rfl, hb⟩
  have HB := Lib.hid hb
  clear hb HC
  go_wp2_with fail
  go_ret
  exact ⟨rfl, HB.out⟩
end
end Go.Proofs.YtphojigdapaaiaaDoor
namespace Go.Proofs.YtphojigdapaaiaaDoor
open Go.ChangeShapes Go.WideShapes Go.ChangeAt Go.RowKit
set_option linter.unusedVariables false
set_option linter.unusedSimpArgs false
theorem beq_bytes {a b : ByteArray} : (a == b) = true ↔ a = b := by
  rw [beq_toListBytes, beq_iff_eq, ByteArray.toList_eq, ByteArray.toList_eq]
  exact ⟨bytes_inj, fun h => by rw [h]⟩
theorem isF_some {k : Int} {s : ByteArray} {S : Rd} (h : isF k s S = true) : ∃ t, S.L[S.at_]? = some t ∧ t.k = k ∧ (s = ⟨#[]⟩ ∨ t.s = s) := by
  unfold isF at h
  split at h
  · rename_i t ht
    rw [Bool.and_eq_true, Bool.or_eq_true, beq_iff_eq, beq_bytes, beq_bytes] at h
    exact ⟨t, ht, h.1, h.2⟩
  · cases h
theorem takeF_some {k : Int} {s : ByteArray} {S S' : Rd} {t : Tok} (h : takeF k s S = some (S', t)) : S.L[S.at_]? = some t ∧ t.k = k ∧ (s = ⟨#[]⟩ ∨ t.s = s) ∧ S' = { S with at_ := S.at_ + 1 } := by
  unfold takeF at h
  obtain ⟨h1, h2⟩ := req_some.1 h
  obtain ⟨u, hu, h3, h4⟩ := isF_some h1
  rw [hu] at h2
  simp only [Option.map_some, Option.some.injEq, Prod.mk.injEq] at h2
  obtain ⟨rfl, rfl⟩ := h2
  exact ⟨hu, h3, h4, rfl⟩
abbrev tokV (t : Tok) : Value := .agg #[.int .i64 t.k, .string t.s, .int .i64 t.at_]
section
variable {B : Nat} {AL : Option Addr} {cL g : Nat} {S : Rd} {R : Rw} {w : World}
set_option maxRecDepth 100000 in
set_option maxHeartbeats 8000000 in
theorem c65 {k : Int} {s : ByteArray} {S' : Rd} {t : Tok} (h : RdSt B AL cL g S R w) (hf : takeF k s S = some (S', t)) : Calls Tryd.prog 65 #[ptr g, .int .i64 k, .string s] w (REnd B AL cL g R w S' (tokV t)) := by
  obtain ⟨hk, rfl, hs, rfl⟩ := takeF_some hf
  have HS := Lib.hid h
  have hn := h.new 109 #[.int .i64 0, .string ⟨#[]⟩, .int .i64 0]
  have hbn := below_new w (.cells #[.int .i64 0, .string ⟨#[]⟩, .int .i64 0] 109)
  have HS1 := Lib.hid (h.below hbn)
  have HP1 := Lib.hid hn
  have HT1 := Lib.hid ((To.refl g R w).below hbn)
  have HK := Lib.hid hk
  have g0 := HS.out.g0
  have g1 := HS.out.g1
  have g7 := HS.out.g7
  have hlt : S.at_ < S.L.length := (List.getElem?_eq_some_iff.1 hk).1
  have i1 : (S.at_ : Int) < (S.L.length : Int) := by omega
  have i2 : ¬ (S.L.length : Int) ≤ (S.at_ : Int) := by omega
  have i0 : (0 : Int) ≤ (S.at_ : Int) := by omega
  have HW := Lib.hid (show S.at_ < 3000 by have := h.len; omega)
  have hlt3 := HW.out
  have w64 : wrap64 ((S.at_ : Int) + 1) = (S.at_ : Int) + 1 := by unfold wrap64; omega
  clear h hn hbn hk hf hlt hlt3
  dsimp only [ptr]
  have he : (s == ⟨#[]⟩) = s.toList.isEmpty := empty_beq s
  rcases hs with rfl | rfl
  · have hz : (ByteArray.mk #[]).toList.isEmpty = true := by rw [← he]; rfl
    clear he
    go_enter Tryd.func65, Tryd.ntmps65
    go_upto_region 1 with fail
    generalize w.alloc (.cells #[.int .i64 0, .string ⟨#[]⟩, .int .i64 0] 109) = w1 at HS1 HP1 HT1 ⊢
    generalize hxb : w.heap.size = xb at HP1 ⊢
    have HXB := Lib.hid hxb
    clear hxb g0 g1 g7
    have g0 := HS1.out.g0
    have g1 := HS1.out.g1
    have g7 := HS1.out.g7
    go_upto_region 3 with fail
    obtain ⟨ad, rfl, a0, a1, a2, _⟩ := HS1.out.tok.tokF HK.out
    go_quiet (fail)
    have HS2 := Lib.hid (HS1.out.drewN nq)
    have HP2 := Lib.hid (HP1.out.drewN nq)
    have HT2 := Lib.hid (HT1.out.drewN nq)
    clear HS1 HP1 HT1 g0 g1 g7 a0 a1 a2
    generalize w1.drewN nq = w2 at HS2 HP2 HT2 ⊢
    have g0 := HS2.out.g0
    have g1 := HS2.out.g1
    have g7 := HS2.out.g7
    have z1 := HS2.out.fz 1
    go_upto_region 7 with fail
    have HS3 := Lib.hid (HS2.out.setAt (S.at_ + 1))
    have HP3 := Lib.hid (HP2.out.far (p := ⟨g, 1, none⟩) HP2.out.ng (.int .i64 ((S.at_ + 1 : Nat) : Int)))
    have HT3 := Lib.hid (HT2.out.set (p := ⟨g, 1, none⟩) (.inl rfl) (.int .i64 ((S.at_ + 1 : Nat) : Int)))
    clear HS2 HP2 HT2 g0 g1 g7 z1
    rw [show ((S.at_ : Int) + 1) = ((S.at_ + 1 : Nat) : Int) by omega]
    generalize w2.setCell ⟨g, 1, none⟩ (.int .i64 ((S.at_ + 1 : Nat) : Int)) = w3 at HS3 HP3 HT3 ⊢
    have g0 : w3.cell? ⟨g, 0, none⟩ = some (.slice (some ad) S.L.length cL) := HS3.out.g0
    obtain ⟨k1, hk1⟩ : ∃ k1 : Nat, k1 = S.at_ + 1 := ⟨_, rfl⟩
    have g1 : w3.cell? ⟨g, 1, none⟩ = some (.int .i64 (k1 : Int)) := by rw [hk1]; exact HS3.out.g1
    obtain ⟨ad', had, _, _, _, hcs⟩ := (show Reads w3 B 3 (some ad) S.L.length (S.L.flatMap tokC) from HS3.out.tok).tokF HK.out
    obtain rfl := Option.some.inj had
    have HCS := Lib.hid hcs
    clear hcs had
    have sb : IntKind.i64.wrap ((k1 : Int) - 1) = (S.at_ : Int) := by rw [IntKind.wrap_i64, hk1]; have := HW.out; omega
    clear hk1
    go_still_tail 10, (by kernel_rfl)
    change wpList _ _ _ _ _ w3.drew
    have HS4 := Lib.hid (show RdSt B (some ad) cL g { S with at_ := S.at_ + 1 } R w3.drew from HS3.out.drewN 1)
    have HP4 := Lib.hid (show Pr B g R w3.drew xb 109 #[.int .i64 0, .string ⟨#[]⟩, .int .i64 0] from HP3.out.drewN 1)
    have HT4 := Lib.hid (show To g R w R w3.drew from HT3.out.drewN 1)
    have HCD := Lib.hid (show ∀ j v, (tokC t)[j]? = some v → w3.drew.cell? ((ad.add (S.at_ * 3)).add j) = some v from HCS.out)
    clear HS3 HP3 HT3 HCS g0 g1 sb
    generalize w3.drew = w4 at HS4 HP4 HT4 HCD ⊢
    refine wpList_load_at rfl 109 (.tmp 78) rfl (ad.add (S.at_ * 3)) rfl (tokC t) _ HCD.out Tryd.underlying109 rfl (by kernel_rfl) ?_
    rw [show (tokC t).toArray = #[.int .i64 t.k, .string t.s, .int .i64 t.at_] from rfl]
    have d0 : w4.cell? ⟨xb, 0, none⟩ = some (.int .i64 0) := HP4.out.blk.cell 0
    have d1 : w4.cell? ⟨xb, 1, none⟩ = some (.string ⟨#[]⟩) := HP4.out.blk.cell 1
    have d2 : w4.cell? ⟨xb, 2, none⟩ = some (.int .i64 0) := HP4.out.blk.cell 2
    have f0 := HP4.out.blk.frozen 0
    have f1 := HP4.out.blk.frozen 1
    have f2 := HP4.out.blk.frozen 2
    go_wp2_with fail
    have HP5 := HP4.out.set 0 (.int .i64 t.k)
    have HP6 := HP5.set 1 (.string t.s)
    exact bodyPost_ret (results_cell_row rfl _ _ _ 109 _ (0, 0) _ rfl (row3 HP4.out.blk) Tryd.underlying109 rfl (by kernel_rfl)) rfl ⟨rfl, R, ((HS4.out.far HP4.out 0 _).far HP5 1 _).far HP6 2 _, ((HT4.out.set (p := ⟨xb, 0, none⟩) (.inr (Nat.le_of_eq HXB.out)) _).set (p := ⟨xb, 1, none⟩) (.inr (Nat.le_of_eq HXB.out)) _).set (p := ⟨xb, 2, none⟩) (.inr (Nat.le_of_eq HXB.out)) _⟩
  · clear he
    cases hz : t.s.toList.isEmpty with
    | true =>
      go_enter Tryd.func65, Tryd.ntmps65
      go_upto_region 1 with fail
      generalize w.alloc (.cells #[.int .i64 0, .string ⟨#[]⟩, .int .i64 0] 109) = w1 at HS1 HP1 HT1 ⊢
      generalize hxb : w.heap.size = xb at HP1 ⊢
      have HXB := Lib.hid hxb
      clear hxb g0 g1 g7
      have g0 := HS1.out.g0
      have g1 := HS1.out.g1
      have g7 := HS1.out.g7
      go_upto_region 3 with fail
      obtain ⟨ad, rfl, a0, a1, a2, _⟩ := HS1.out.tok.tokF HK.out
      go_quiet (fail)
      have HS2 := Lib.hid (HS1.out.drewN nq)
      have HP2 := Lib.hid (HP1.out.drewN nq)
      have HT2 := Lib.hid (HT1.out.drewN nq)
      clear HS1 HP1 HT1 g0 g1 g7 a0 a1 a2
      generalize w1.drewN nq = w2 at HS2 HP2 HT2 ⊢
      have g0 := HS2.out.g0
      have g1 := HS2.out.g1
      have g7 := HS2.out.g7
      have z1 := HS2.out.fz 1
      go_upto_region 7 with fail
      have HS3 := Lib.hid (HS2.out.setAt (S.at_ + 1))
      have HP3 := Lib.hid (HP2.out.far (p := ⟨g, 1, none⟩) HP2.out.ng (.int .i64 ((S.at_ + 1 : Nat) : Int)))
      have HT3 := Lib.hid (HT2.out.set (p := ⟨g, 1, none⟩) (.inl rfl) (.int .i64 ((S.at_ + 1 : Nat) : Int)))
      clear HS2 HP2 HT2 g0 g1 g7 z1
      rw [show ((S.at_ : Int) + 1) = ((S.at_ + 1 : Nat) : Int) by omega]
      generalize w2.setCell ⟨g, 1, none⟩ (.int .i64 ((S.at_ + 1 : Nat) : Int)) = w3 at HS3 HP3 HT3 ⊢
      have g0 : w3.cell? ⟨g, 0, none⟩ = some (.slice (some ad) S.L.length cL) := HS3.out.g0
      obtain ⟨k1, hk1⟩ : ∃ k1 : Nat, k1 = S.at_ + 1 := ⟨_, rfl⟩
      have g1 : w3.cell? ⟨g, 1, none⟩ = some (.int .i64 (k1 : Int)) := by rw [hk1]; exact HS3.out.g1
      obtain ⟨ad', had, _, _, _, hcs⟩ := (show Reads w3 B 3 (some ad) S.L.length (S.L.flatMap tokC) from HS3.out.tok).tokF HK.out
      obtain rfl := Option.some.inj had
      have HCS := Lib.hid hcs
      clear hcs had
      have sb : IntKind.i64.wrap ((k1 : Int) - 1) = (S.at_ : Int) := by rw [IntKind.wrap_i64, hk1]; have := HW.out; omega
      clear hk1
      go_still_tail 10, (by kernel_rfl)
      change wpList _ _ _ _ _ w3.drew
      have HS4 := Lib.hid (show RdSt B (some ad) cL g { S with at_ := S.at_ + 1 } R w3.drew from HS3.out.drewN 1)
      have HP4 := Lib.hid (show Pr B g R w3.drew xb 109 #[.int .i64 0, .string ⟨#[]⟩, .int .i64 0] from HP3.out.drewN 1)
      have HT4 := Lib.hid (show To g R w R w3.drew from HT3.out.drewN 1)
      have HCD := Lib.hid (show ∀ j v, (tokC t)[j]? = some v → w3.drew.cell? ((ad.add (S.at_ * 3)).add j) = some v from HCS.out)
      clear HS3 HP3 HT3 HCS g0 g1 sb
      generalize w3.drew = w4 at HS4 HP4 HT4 HCD ⊢
      refine wpList_load_at rfl 109 (.tmp 78) rfl (ad.add (S.at_ * 3)) rfl (tokC t) _ HCD.out Tryd.underlying109 rfl (by kernel_rfl) ?_
      rw [show (tokC t).toArray = #[.int .i64 t.k, .string t.s, .int .i64 t.at_] from rfl]
      have d0 : w4.cell? ⟨xb, 0, none⟩ = some (.int .i64 0) := HP4.out.blk.cell 0
      have d1 : w4.cell? ⟨xb, 1, none⟩ = some (.string ⟨#[]⟩) := HP4.out.blk.cell 1
      have d2 : w4.cell? ⟨xb, 2, none⟩ = some (.int .i64 0) := HP4.out.blk.cell 2
      have f0 := HP4.out.blk.frozen 0
      have f1 := HP4.out.blk.frozen 1
      have f2 := HP4.out.blk.frozen 2
      go_wp2_with fail
      have HP5 := HP4.out.set 0 (.int .i64 t.k)
      have HP6 := HP5.set 1 (.string t.s)
      exact bodyPost_ret (results_cell_row rfl _ _ _ 109 _ (0, 0) _ rfl (row3 HP4.out.blk) Tryd.underlying109 rfl (by kernel_rfl)) rfl ⟨rfl, R, ((HS4.out.far HP4.out 0 _).far HP5 1 _).far HP6 2 _, ((HT4.out.set (p := ⟨xb, 0, none⟩) (.inr (Nat.le_of_eq HXB.out)) _).set (p := ⟨xb, 1, none⟩) (.inr (Nat.le_of_eq HXB.out)) _).set (p := ⟨xb, 2, none⟩) (.inr (Nat.le_of_eq HXB.out)) _⟩
    | false =>
      go_enter Tryd.func65, Tryd.ntmps65
      go_upto_region 1 with fail
      generalize w.alloc (.cells #[.int .i64 0, .string ⟨#[]⟩, .int .i64 0] 109) = w1 at HS1 HP1 HT1 ⊢
      generalize hxb : w.heap.size = xb at HP1 ⊢
      have HXB := Lib.hid hxb
      clear hxb g0 g1 g7
      have g0 := HS1.out.g0
      have g1 := HS1.out.g1
      have g7 := HS1.out.g7
      go_upto_region 3 with fail
      obtain ⟨ad, rfl, a0, a1, a2, _⟩ := HS1.out.tok.tokF HK.out
      go_quiet (fail)
      have HS2 := Lib.hid (HS1.out.drewN nq)
      have HP2 := Lib.hid (HP1.out.drewN nq)
      have HT2 := Lib.hid (HT1.out.drewN nq)
      clear HS1 HP1 HT1 g0 g1 g7 a0 a1 a2
      generalize w1.drewN nq = w2 at HS2 HP2 HT2 ⊢
      have g0 := HS2.out.g0
      have g1 := HS2.out.g1
      have g7 := HS2.out.g7
      have z1 := HS2.out.fz 1
      go_upto_region 7 with fail
      have HS3 := Lib.hid (HS2.out.setAt (S.at_ + 1))
      have HP3 := Lib.hid (HP2.out.far (p := ⟨g, 1, none⟩) HP2.out.ng (.int .i64 ((S.at_ + 1 : Nat) : Int)))
      have HT3 := Lib.hid (HT2.out.set (p := ⟨g, 1, none⟩) (.inl rfl) (.int .i64 ((S.at_ + 1 : Nat) : Int)))
      clear HS2 HP2 HT2 g0 g1 g7 z1
      rw [show ((S.at_ : Int) + 1) = ((S.at_ + 1 : Nat) : Int) by omega]
      generalize w2.setCell ⟨g, 1, none⟩ (.int .i64 ((S.at_ + 1 : Nat) : Int)) = w3 at HS3 HP3 HT3 ⊢
      have g0 : w3.cell? ⟨g, 0, none⟩ = some (.slice (some ad) S.L.length cL) := HS3.out.g0
      obtain ⟨k1, hk1⟩ : ∃ k1 : Nat, k1 = S.at_ + 1 := ⟨_, rfl⟩
      have g1 : w3.cell? ⟨g, 1, none⟩ = some (.int .i64 (k1 : Int)) := by rw [hk1]; exact HS3.out.g1
      obtain ⟨ad', had, _, _, _, hcs⟩ := (show Reads w3 B 3 (some ad) S.L.length (S.L.flatMap tokC) from HS3.out.tok).tokF HK.out
      obtain rfl := Option.some.inj had
      have HCS := Lib.hid hcs
      clear hcs had
      have sb : IntKind.i64.wrap ((k1 : Int) - 1) = (S.at_ : Int) := by rw [IntKind.wrap_i64, hk1]; have := HW.out; omega
      clear hk1
      go_still_tail 10, (by kernel_rfl)
      change wpList _ _ _ _ _ w3.drew
      have HS4 := Lib.hid (show RdSt B (some ad) cL g { S with at_ := S.at_ + 1 } R w3.drew from HS3.out.drewN 1)
      have HP4 := Lib.hid (show Pr B g R w3.drew xb 109 #[.int .i64 0, .string ⟨#[]⟩, .int .i64 0] from HP3.out.drewN 1)
      have HT4 := Lib.hid (show To g R w R w3.drew from HT3.out.drewN 1)
      have HCD := Lib.hid (show ∀ j v, (tokC t)[j]? = some v → w3.drew.cell? ((ad.add (S.at_ * 3)).add j) = some v from HCS.out)
      clear HS3 HP3 HT3 HCS g0 g1 sb
      generalize w3.drew = w4 at HS4 HP4 HT4 HCD ⊢
      refine wpList_load_at rfl 109 (.tmp 78) rfl (ad.add (S.at_ * 3)) rfl (tokC t) _ HCD.out Tryd.underlying109 rfl (by kernel_rfl) ?_
      rw [show (tokC t).toArray = #[.int .i64 t.k, .string t.s, .int .i64 t.at_] from rfl]
      have d0 : w4.cell? ⟨xb, 0, none⟩ = some (.int .i64 0) := HP4.out.blk.cell 0
      have d1 : w4.cell? ⟨xb, 1, none⟩ = some (.string ⟨#[]⟩) := HP4.out.blk.cell 1
      have d2 : w4.cell? ⟨xb, 2, none⟩ = some (.int .i64 0) := HP4.out.blk.cell 2
      have f0 := HP4.out.blk.frozen 0
      have f1 := HP4.out.blk.frozen 1
      have f2 := HP4.out.blk.frozen 2
      go_wp2_with fail
      have HP5 := HP4.out.set 0 (.int .i64 t.k)
      have HP6 := HP5.set 1 (.string t.s)
      exact bodyPost_ret (results_cell_row rfl _ _ _ 109 _ (0, 0) _ rfl (row3 HP4.out.blk) Tryd.underlying109 rfl (by kernel_rfl)) rfl ⟨rfl, R, ((HS4.out.far HP4.out 0 _).far HP5 1 _).far HP6 2 _, ((HT4.out.set (p := ⟨xb, 0, none⟩) (.inr (Nat.le_of_eq HXB.out)) _).set (p := ⟨xb, 1, none⟩) (.inr (Nat.le_of_eq HXB.out)) _).set (p := ⟨xb, 2, none⟩) (.inr (Nat.le_of_eq HXB.out)) _⟩
end
end Go.Proofs.YtphojigdapaaiaaDoor
namespace Go.Proofs.YtphojigdapaaiaaDoor
open Go.ChangeShapes Go.WideShapes Go.ChangeAt Go.RowKit
set_option linter.unusedVariables false
set_option linter.unusedSimpArgs false
section
variable {B : Nat} {AL : Option Addr} {cL g : Nat} {S : Rd} {R : Rw} {w : World}
theorem openF_some {S S' : Rd} (h : openF S = some S') : S.deep < 160 ∧ S' = { S with deep := S.deep + 1 } := by
  obtain ⟨h1, h2⟩ := req_some.1 h
  exact ⟨of_decide_eq_true h1, (Option.some.inj h2).symm⟩
theorem closeF_some {S S' : Rd} (h : closeF S = some S') : 0 < S.deep ∧ S' = { S with deep := S.deep - 1 } := by
  obtain ⟨h1, h2⟩ := req_some.1 h
  exact ⟨of_decide_eq_true h1, (Option.some.inj h2).symm⟩
set_option maxRecDepth 100000 in
set_option maxHeartbeats 8000000 in
theorem c69 {S' : Rd} (h : RdSt B AL cL g S R w) (hf : openF S = some S') : Calls Tryd.prog 69 #[ptr g] w (REnd B AL cL g R w S' (.tuple #[])) := by
  obtain ⟨hd, rfl⟩ := openF_some hf
  have HS := Lib.hid h
  have g6 := HS.out.g6
  have z6 := HS.out.fz 6
  have HS1 := Lib.hid (HS.out.setDeep (S.deep + 1) (by omega))
  have HT1 := Lib.hid ((To.refl g R w).set (p := ⟨g, 6, none⟩) (.inl rfl) (.int .i64 ((S.deep + 1 : Nat) : Int)))
  have w64 : wrap64 ((S.deep : Int) + 1) = (S.deep : Int) + 1 := by unfold wrap64; omega
  have i1 : ¬ (160 : Int) < ((S.deep + 1 : Nat) : Int) := by omega
  clear h hf hd
  dsimp only [ptr]
  go_enter Tryd.func69, Tryd.ntmps69
  go_upto_region 1 with fail
  rw [show ((S.deep : Int) + 1) = ((S.deep + 1 : Nat) : Int) by omega]
  clear g6 z6 w64
  generalize w.setCell ⟨g, 6, none⟩ (.int .i64 ((S.deep + 1 : Nat) : Int)) = w1 at HS1 HT1 ⊢
  have g6 : w1.cell? ⟨g, 6, none⟩ = some (.int .i64 ((S.deep + 1 : Nat) : Int)) := HS1.out.g6
  go_wp2_with fail
  refine Go.Great.bodyPost_end0 rfl rfl ?_
  exact ⟨rfl, R, HS1.out, HT1.out⟩
set_option maxRecDepth 100000 in
set_option maxHeartbeats 8000000 in
theorem c71 {S' : Rd} (h : RdSt B AL cL g S R w) (hf : closeF S = some S') : Calls Tryd.prog 71 #[ptr g] w (REnd B AL cL g R w S' (.tuple #[])) := by
  obtain ⟨hd, rfl⟩ := closeF_some hf
  have HS := Lib.hid h
  have g6 := HS.out.g6
  have z6 := HS.out.fz 6
  have HS1 := Lib.hid (HS.out.setDeep (S.deep - 1) (by have := h.dp; omega))
  have HT1 := Lib.hid ((To.refl g R w).set (p := ⟨g, 6, none⟩) (.inl rfl) (.int .i64 ((S.deep - 1 : Nat) : Int)))
  have hd1 := h.dp
  have w64 : wrap64 ((S.deep : Int) - 1) = ((S.deep - 1 : Nat) : Int) := by unfold wrap64; omega
  clear h hf hd hd1
  dsimp only [ptr]
  go_enter Tryd.func71, Tryd.ntmps71
  go_wp2_with fail
  refine Go.Great.bodyPost_end0 rfl rfl ?_
  exact ⟨rfl, R, HS1.out, HT1.out⟩
theorem nodeF_some {x : Nod} {S S' : Rd} {r : Int} (h : nodeF x S = some (S', r)) : S.nodes.length < 500 ∧ S' = { S with nodes := S.nodes ++ [x] } ∧ r = (S.nodes.length : Int) := by
  obtain ⟨h1, h2⟩ := req_some.1 h
  have h3 := Option.some.inj h2
  injection h3 with h4 h5
  exact ⟨of_decide_eq_true h1, h4.symm, h5.symm⟩
set_option maxRecDepth 100000 in
set_option maxHeartbeats 8000000 in
theorem c68 {S' : Rd} {x : Nod} {r : Int} (h : RdSt B AL cL g S R w) (hf : nodeF x S = some (S', r)) : Calls Tryd.prog 68 #[ptr g, .agg (nodC x).toArray] w (REnd B AL cL g R w S' (.int .i64 r)) := by
  obtain ⟨hn, rfl, rfl⟩ := nodeF_some hf
  obtain ⟨xk, xt, xt2, xn, xa, xb, xc, xh⟩ := x
  obtain ⟨i30, fi30, hz0, hz1, hz2⟩ := info_parts node_info
  have H30 := Lib.hid (show i30.zero = some (.agg #[.int .i64 0, .string ⟨#[]⟩, .string ⟨#[]⟩, .int .i64 0, .int .i64 0, .int .i64 0, .int .i64 0, .int .i64 0]) ∧ i30.size = 8 ∧ i30.bytes = 80 from ⟨hz0, hz1, hz2⟩)
  show Calls Tryd.prog 68 #[ptr g, .agg #[.int .i64 xk, strV xt, strV xt2, .int .i64 xn, .int .i64 xa, .int .i64 xb, .int .i64 xc, .int .i64 xh]] w _
  have hbn := below_new w (.cells #[.int .i64 xk, strV xt, strV xt2, .int .i64 xn, .int .i64 xa, .int .i64 xb, .int .i64 xc, .int .i64 xh] 30)
  have HS1 := Lib.hid (h.below hbn)
  have HP1 := Lib.hid (h.new 30 #[.int .i64 xk, strV xt, strV xt2, .int .i64 xn, .int .i64 xa, .int .i64 xb, .int .i64 xc, .int .i64 xh])
  have HT1 := Lib.hid ((To.refl g R w).below hbn)
  have HN := Lib.hid hn
  have e500 : ((S.nodes.length : Int) == 500) = false := beq_false_of_ne (by omega)
  clear h hf hn hbn hz0 hz1 hz2
  dsimp only [ptr]
  go_enter Tryd.func68, Tryd.ntmps68
  go_upto_region 1 with fail
  generalize w.alloc (.cells #[.int .i64 xk, strV xt, strV xt2, .int .i64 xn, .int .i64 xa, .int .i64 xb, .int .i64 xc, .int .i64 xh] 30) = w1 at HS1 HP1 HT1 ⊢
  generalize w.heap.size = xb0 at HP1 ⊢
  have g3 := HS1.out.g3
  have g7 := HS1.out.g7
  go_upto_region 9 with fail
  have x0 : w1.cell? ⟨xb0, 0, none⟩ = some (.int .i64 xk) := HP1.out.blk.cell 0
  have x1 : w1.cell? ⟨xb0, 1, none⟩ = some (strV xt) := HP1.out.blk.cell 1
  have x2 : w1.cell? ⟨xb0, 2, none⟩ = some (strV xt2) := HP1.out.blk.cell 2
  have x3 : w1.cell? ⟨xb0, 3, none⟩ = some (.int .i64 xn) := HP1.out.blk.cell 3
  have x4 : w1.cell? ⟨xb0, 4, none⟩ = some (.int .i64 xa) := HP1.out.blk.cell 4
  have x5 : w1.cell? ⟨xb0, 5, none⟩ = some (.int .i64 xb) := HP1.out.blk.cell 5
  have x6 : w1.cell? ⟨xb0, 6, none⟩ = some (.int .i64 xc) := HP1.out.blk.cell 6
  have x7 : w1.cell? ⟨xb0, 7, none⟩ = some (.int .i64 xh) := HP1.out.blk.cell 7
  have HS2 := Lib.hid (show RdSt B AL cL g S R w1.drew from HS1.out.drewN 1)
  have HT2 := Lib.hid (show To g R w R w1.drew from HT1.out.drewN 1)
  have HP2 := Lib.hid (show Pr B g R w1.drew xb0 30 #[.int .i64 xk, strV xt, strV xt2, .int .i64 xn, .int .i64 xa, .int .i64 xb, .int .i64 xc, .int .i64 xh] from HP1.out.drewN 1)
  refine wp_region_last (S := fun V => V.cell? ⟨g, 3, none⟩ = some (.slice R.A S.nodes.length R.c) ∧ V.cell? ⟨xb0, 0, none⟩ = some (.int .i64 xk) ∧ V.cell? ⟨xb0, 1, none⟩ = some (strV xt) ∧ V.cell? ⟨xb0, 2, none⟩ = some (strV xt2) ∧ V.cell? ⟨xb0, 3, none⟩ = some (.int .i64 xn) ∧ V.cell? ⟨xb0, 4, none⟩ = some (.int .i64 xa) ∧ V.cell? ⟨xb0, 5, none⟩ = some (.int .i64 xb) ∧ V.cell? ⟨xb0, 6, none⟩ = some (.int .i64 xc) ∧ V.cell? ⟨xb0, 7, none⟩ = some (.int .i64 xh)) 12 (by kernel_rfl) (by kernel_rfl) (by kernel_rfl) (by kernel_rfl) ⟨g3, x0, x1, x2, x3, x4, x5, x6, x7⟩ (fun hHeld => ?_)
  clear HS1 HT1 HP1 g3 g7 x0 x1 x2 x3 x4 x5 x6 x7
  generalize w1.drew = w2 at HS2 HT2 HP2 hHeld ⊢
  refine tkH 0 42 ?_ rfl ?_ ?_
  rotate_left
  · intro w hSw
    go_simp
    try with_reducible rfl
  try simp only [Act.put, sLA, sL0, sL1]
  refine tkH 1 43 ?_ rfl ?_ ?_
  rotate_left
  · intro w hSw
    go_simp
    try with_reducible rfl
  try simp only [Act.put, sLA, sL0, sL1]
  refine tkH 2 44 ?_ rfl ?_ ?_
  rotate_left
  · intro w hSw
    go_simp
    try with_reducible rfl
  try simp only [Act.put, sLA, sL0, sL1]
  refine tkH 3 45 ?_ rfl ?_ ?_
  rotate_left
  · intro w hSw
    go_simp
    try with_reducible rfl
  try simp only [Act.put, sLA, sL0, sL1]
  refine tkH 4 46 ?_ rfl ?_ ?_
  rotate_left
  · intro w hSw
    go_simp
    try with_reducible rfl
  try simp only [Act.put, sLA, sL0, sL1]
  refine tkH 5 47 ?_ rfl ?_ ?_
  rotate_left
  · intro w hSw
    go_simp
    try with_reducible rfl
  try simp only [Act.put, sLA, sL0, sL1]
  refine tkH 6 48 ?_ rfl ?_ ?_
  rotate_left
  · intro w hSw
    go_simp
    try with_reducible rfl
  try simp only [Act.put, sLA, sL0, sL1]
  refine wpAnyH_ready (rs := [7]) (by kernel_rfl) (by simp) ?_
  refine AllReadyH.cons (o := ⟨some 49, _, _, _, _, _⟩) rfl (fun K hK => ?_) AllReadyH.nil
  go_simp
  refine hK.out _ _ ?_ (fun hHeld => ?_)
  · exact ⟨(HS2.out.below (below_new _ _)).g3, (HP2.out.next (below_new _ _)).blk.cell 0, (HP2.out.next (below_new _ _)).blk.cell 1, (HP2.out.next (below_new _ _)).blk.cell 2, (HP2.out.next (below_new _ _)).blk.cell 3, (HP2.out.next (below_new _ _)).blk.cell 4, (HP2.out.next (below_new _ _)).blk.cell 5, (HP2.out.next (below_new _ _)).blk.cell 6, (HP2.out.next (below_new _ _)).blk.cell 7⟩
  clear hK K
  try simp only [Act.put, sLA, sL0, sL1]
  refine wpAnyH_ready (rs := [8]) (by kernel_rfl) (by simp) ?_
  refine AllReadyH.cons (o := ⟨some 50, _, _, _, _, _⟩) rfl (fun K hK => ?_) AllReadyH.nil
  refine step_append_any _ (by rfl) (.tmp 47) (.tmp 49) 22 (by rfl) B 30 i30 _ 8 80 Tryd.underlying22 fi30 H30.out.1 H30.out.2.1 H30.out.2.2 rfl (by omega) (.slice R.A S.nodes.length R.c) S.nodes.length (S.nodes.flatMap nodC) (by rfl) (own_next HS2.out.nod (below_new _ _)) (w2.heap.size + 1) (some ⟨w2.heap.size, 0, none⟩) 1 1 (nodC ⟨xk, xt, xt2, xn, xa, xb, xc, xh⟩) (by rfl) (reads_blkN (Blk.new w2 30 (nodC ⟨xk, xt, xt2, xn, xa, xb, xc, xh⟩).toArray) rfl) (nod_one [⟨xk, xt, xt2, xn, xa, xb, xc, xh⟩]) (by unfold maxLen; have := HN.out; omega) (by have := HN.out; omega) (by rw [World.size_alloc]; have := HS2.out.size; omega) ?_
  intro v1 w7 oA gA nA
  have HP7 := (HP2.out.next (below_new w2 (.cells (nodC ⟨xk, xt, xt2, xn, xa, xb, xc, xh⟩).toArray 30))).blk.grown gA (by rw [own_blkOf]; exact HP2.out.n1)
  obtain ⟨A1, c1, rfl, hS8, hG8, hT8⟩ := (HS2.out.below (below_new w2 (.cells (nodC ⟨xk, xt, xt2, xn, xa, xb, xc, xh⟩).toArray 30))).push ⟨xk, xt, xt2, xn, xa, xb, xc, xh⟩ oA gA nA
  have y3 := hG8.cell 3
  have y3f := hG8.frozen 3
  have HS8 := Lib.hid hS8
  have HT8 := Lib.hid ((HT2.out.below (below_new w2 (.cells (nodC ⟨xk, xt, xt2, xn, xa, xb, xc, xh⟩).toArray 30))).trans hT8)
  clear oA gA nA hS8 hT8
  refine hK.out _ _ ?_ (fun hHeld => ?_)
  · exact ⟨y3, HP7.cell 0, HP7.cell 1, HP7.cell 2, HP7.cell 3, HP7.cell 4, HP7.cell 5, HP7.cell 6, HP7.cell 7⟩
  clear hK K hG8 HP7
  try simp only [Act.put, sLA, sL0, sL1]
  refine tkH 9 51 ?_ rfl ?_ ?_
  rotate_left
  · intro w hSw
    go_simp
    try with_reducible rfl
  try simp only [Act.put, sLA, sL0, sL1]
  refine tkH 10 52 ?_ rfl ?_ ?_
  rotate_left
  · intro w hSw
    go_simp
    try with_reducible rfl
  try simp only [Act.put, sLA, sL0, sL1]
  refine tkH 11 53 ?_ rfl ?_ ?_
  rotate_left
  · intro w hSw
    go_simp
    try with_reducible rfl
  try simp only [Act.put, sLA, sL0, sL1]
  refine wpAnyH_done (by kernel_rfl) ?_ _
  refine lastPost_run (o := ⟨none, _, _, _, _, _⟩) rfl (fun K hK => ?_)
  go_simp
  refine hK.out _ _ ?_
  clear hK K
  clear hHeld y3 y3f HP2
  generalize w7.setCell ⟨g, 3, none⟩ (.slice A1 (S.nodes.length + 1) c1) = w8 at HS8 HT8 ⊢
  have g3 : w8.cell? ⟨g, 3, none⟩ = some (.slice A1 (S.nodes.length + 1) c1) := by have h9 := HS8.out.g3; simpa using h9
  have w64 : wrap64 (((S.nodes.length + 1 : Nat) : Int) - 1) = (S.nodes.length : Int) := by unfold wrap64; have := HN.out; omega
  go_wp2_with fail
  go_ret
  have w65 : wrap64 (S.nodes.length : Int) = (S.nodes.length : Int) := by unfold wrap64; have := HN.out; omega
  exact ⟨by simp [w65], _, HS8.out, HT8.out⟩
set_option maxRecDepth 100000 in
set_option maxHeartbeats 8000000 in
theorem c98 {k : Nat} {x : Nod} (h : RdSt B AL cL g S R w) (hk : S.nodes[k]? = some x) : Calls Tryd.prog 98 #[ptr g, .int .i64 (k : Int)] w fun e w' => e = .returned (.int .i64 x.h) ∧ Below w.heap.size w w' := by
  have hlt : k < S.nodes.length := (List.getElem?_eq_some_iff.1 hk).1
  have i1 : (k : Int) < (S.nodes.length : Int) := by omega
  have i0 : (0 : Int) ≤ (k : Int) := by omega
  have g3 := h.g3
  have g7 := h.g7
  obtain ⟨ad, hA, _, hcs⟩ := (Reads.of_own h.nod).nodAt hk
  rw [hA] at g3
  have a7 := hcs 7 (.int .i64 x.h) rfl
  have a7' : w.cell? ⟨(ad.add (k * 8)).block, (ad.add (k * 8)).off + 7, none⟩ = some (.int .i64 x.h) := by
    generalize ad.add (k * 8) = q at a7 ⊢
    simpa [Addr.add] using a7
  clear a7 hcs hA h hlt hk
  dsimp only [ptr]
  go_enter Tryd.func98, Tryd.ntmps98
  go_wp2_with fail
  go_ret
  exact ⟨rfl, Below.refl _ _⟩
theorem run_text109 (a b : Int) (s : ByteArray) (w : World) : (Instr.field 109 (.agg #[.int .i64 a, .string s, .int .i64 b]) 1).run Tryd.prog w = .ok (.string s) w := by
  kernel_rfl
set_option maxRecDepth 100000 in
set_option maxHeartbeats 8000000 in
theorem c75 {S' : Rd} {t : Tok} (h : RdSt B AL cL g S R w) (h0 : isF 6 ⟨#[95]⟩ S = false) (hf : takeF 1 ⟨#[]⟩ S = some (S', t)) : Calls Tryd.prog 75 #[ptr g] w (REnd B AL cL g R w S' (.string t.s)) := by
  have HC := Lib.hid (c67 ⟨#[95]⟩ h)
  have HD := Lib.hid (fun (w1 : World) (hb : Below w.heap.size w w1) => c65 (h.below hb) hf)
  have H0 := Lib.hid h0
  clear h hf h0
  dsimp only [ptr]
  go_enter Tryd.func75, Tryd.ntmps75
  go_wp2_with fail
  refine HC.out.mono ?_
  rintro e w1 ⟨rfl, hb⟩
  rw [H0.out]
  have HB := Lib.hid hb
  have HE := Lib.hid (HD.out w1 hb)
  clear hb
  go_wp2_with fail
  refine HE.out.mono ?_
  rintro e w2 ⟨rfl, R2, hS, hT⟩
  have HS := Lib.hid hS
  have HT := Lib.hid (((To.refl g R w).below HB.out).trans hT)
  have hfd := run_text109 t.k t.at_ t.s
  clear hS hT
  go_wp2_with fail
  go_ret
  exact ⟨rfl, R2, HS.out, HT.out⟩
end
end Go.Proofs.YtphojigdapaaiaaDoor
namespace Go.Proofs.YtphojigdapaaiaaDoor
open Go.ChangeShapes Go.WideShapes Go.ChangeAt Go.RowKit
set_option linter.unusedVariables false
set_option linter.unusedSimpArgs false
theorem and2 {a b : Bool} : (a && b) = true ↔ a = true ∧ b = true := Bool.and_eq_true_iff
theorem notf {a : Bool} : (!a) = true ↔ a = false := by cases a <;> simp
theorem ifo {α : Type} {c : Bool} {a b : Option α} {x : α} : (if c = true then a else b) = some x ↔ (c = true ∧ a = some x) ∨ (c = false ∧ b = some x) := by cases c <;> simp
theorem some2 {α β : Type} {a c : α} {b d : β} : some (a, b) = some (c, d) ↔ a = c ∧ b = d := by simp
set_option maxRecDepth 100000 in
set_option maxHeartbeats 8000000 in
theorem c74 : Spec 74 tyatomF := by
  intro B AL cL g S S' r R w h hf
  simp only [tyatomF, Option.bind_eq_bind, Option.bind_eq_some_iff, Prod.exists, ifo, req_some, and2, notf, some2] at hf
  obtain ⟨S1, f1, hf⟩ := hf
  have F1 := Lib.hid f1
  have HS0 := Lib.hid h
  have HT0 := Lib.hid (To.refl g R w)
  clear h f1
  dsimp only [ptr]
  rcases hf with ⟨b1, S2, t, f2, S3, k, f3, S4, f4, rfl, rfl⟩ | ⟨b1, ⟨⟨b2, b3⟩, b4⟩, S2, t, f2, S3, k, f3, S4, f4, rfl, rfl⟩
  · have B1 := Lib.hid b1
    have HTS := Lib.hid (show t.s = sInt by
      obtain ⟨u, hu, _, h2⟩ := isF_some b1
      have h3 := (takeF_some f2).1
      rw [hu] at h3
      obtain rfl := Option.some.inj h3
      rcases h2 with h2 | h2
      · cases h2
      · exact h2)
    obtain ⟨tk, ts, ta⟩ := t
    obtain rfl : ts = sInt := HTS.out
    clear HTS
    have F2 := Lib.hid f2
    have F3 := Lib.hid f3
    have F4 := Lib.hid f4
    clear b1 f2 f3 f4
    go_enter Tryd.func74, Tryd.ntmps74
    go_wp2_with fail
    refine (c69 HS0.out F1.out).mono ?_
    rintro e w1 ⟨rfl, R1, hS, hT⟩
    have HS1 := Lib.hid (hS)
    have HT1 := Lib.hid (HT0.out.trans hT)
    clear hS hT HS0 HT0 
    go_wp2_with fail
    refine (c48 HS1.out).mono ?_
    rintro e w2 ⟨rfl, hb⟩
    have HS2 := Lib.hid (HS1.out.below hb)
    have HT2 := Lib.hid (HT1.out.below hb)
    clear hb HS1 HT1 
    go_wp2_with fail
    refine (c44 sInt HS2.out).mono ?_
    rintro e w3 ⟨rfl, hb⟩
    rw [B1.out]
    have HS3 := Lib.hid (HS2.out.below hb)
    have HT3 := Lib.hid (HT2.out.below hb)
    clear hb HS2 HT2 
    go_wp2_with fail
    refine (c65 HS3.out F2.out).mono ?_
    rintro e w4 ⟨rfl, R4, hS, hT⟩
    have HS4 := Lib.hid (hS)
    have HT4 := Lib.hid (HT3.out.trans hT)
    clear hS hT HS3 HT3 
    have hfd := run_text109 tk ta sInt
    go_wp2_with fail
    refine (c68 HS4.out F3.out).mono ?_
    rintro e w5 ⟨rfl, R5, hS, hT⟩
    have HS5 := Lib.hid (hS)
    have HT5 := Lib.hid (HT4.out.trans hT)
    clear hS hT HS4 HT4 
    go_wp2_with fail
    refine (c71 HS5.out F4.out).mono ?_
    rintro e w6 ⟨rfl, R6, hS, hT⟩
    have HS6 := Lib.hid (hS)
    have HT6 := Lib.hid (HT5.out.trans hT)
    clear hS hT HS5 HT5 
    go_wp2_with fail
    go_ret
    exact ⟨rfl, _, HS6.out, HT6.out⟩
  · have B1 := Lib.hid b1
    have B2 := Lib.hid b2
    have B3 := Lib.hid b3
    have B4 := Lib.hid b4
    have HTS := Lib.hid (show t.s = sString by
      obtain ⟨u, hu, _, h2⟩ := isF_some b4
      have h3 := (takeF_some f2).1
      rw [hu] at h3
      obtain rfl := Option.some.inj h3
      rcases h2 with h2 | h2
      · cases h2
      · exact h2)
    clear b2 b3 b4
    obtain ⟨tk, ts, ta⟩ := t
    obtain rfl : ts = sString := HTS.out
    clear HTS
    have F2 := Lib.hid f2
    have F3 := Lib.hid f3
    have F4 := Lib.hid f4
    clear b1 f2 f3 f4
    go_enter Tryd.func74, Tryd.ntmps74
    go_wp2_with fail
    refine (c69 HS0.out F1.out).mono ?_
    rintro e w1 ⟨rfl, R1, hS, hT⟩
    have HS1 := Lib.hid (hS)
    have HT1 := Lib.hid (HT0.out.trans hT)
    clear hS hT HS0 HT0 
    go_wp2_with fail
    refine (c48 HS1.out).mono ?_
    rintro e w2 ⟨rfl, hb⟩
    have HS2 := Lib.hid (HS1.out.below hb)
    have HT2 := Lib.hid (HT1.out.below hb)
    clear hb HS1 HT1 
    go_wp2_with fail
    refine (c44 sInt HS2.out).mono ?_
    rintro e w3 ⟨rfl, hb⟩
    rw [B1.out]
    have HS3 := Lib.hid (HS2.out.below hb)
    have HT3 := Lib.hid (HT2.out.below hb)
    clear hb HS2 HT2 
    go_wp2_with fail
    refine (c44 sBool HS3.out).mono ?_
    rintro e w4 ⟨rfl, hb⟩
    rw [B2.out]
    have HS4 := Lib.hid (HS3.out.below hb)
    have HT4 := Lib.hid (HT3.out.below hb)
    clear hb HS3 HT3 
    go_wp2_with fail
    refine (c44 sUnit HS4.out).mono ?_
    rintro e w5 ⟨rfl, hb⟩
    rw [B3.out]
    have HS5 := Lib.hid (HS4.out.below hb)
    have HT5 := Lib.hid (HT4.out.below hb)
    clear hb HS4 HT4 
    go_wp2_with fail
    refine (c44 sString HS5.out).mono ?_
    rintro e w6 ⟨rfl, hb⟩
    rw [B4.out]
    have HS6 := Lib.hid (HS5.out.below hb)
    have HT6 := Lib.hid (HT5.out.below hb)
    clear hb HS5 HT5 
    go_wp2_with fail
    refine (c65 HS6.out F2.out).mono ?_
    rintro e w7 ⟨rfl, R7, hS, hT⟩
    have HS7 := Lib.hid (hS)
    have HT7 := Lib.hid (HT6.out.trans hT)
    clear hS hT HS6 HT6 
    have hfd := run_text109 tk ta sString
    go_wp2_with fail
    refine (c68 HS7.out F3.out).mono ?_
    rintro e w8 ⟨rfl, R8, hS, hT⟩
    have HS8 := Lib.hid (hS)
    have HT8 := Lib.hid (HT7.out.trans hT)
    clear hS hT HS7 HT7 
    go_wp2_with fail
    refine (c71 HS8.out F4.out).mono ?_
    rintro e w9 ⟨rfl, R9, hS, hT⟩
    have HS9 := Lib.hid (hS)
    have HT9 := Lib.hid (HT8.out.trans hT)
    clear hS hT HS8 HT8 
    go_wp2_with fail
    go_ret
    exact ⟨rfl, _, HS9.out, HT9.out⟩
set_option maxRecDepth 100000 in
set_option maxHeartbeats 8000000 in
theorem c66 : Spec 66 tyF := by
  intro B AL cL g S S' r R w h hf
  simp only [tyF, Option.bind_eq_bind, Option.bind_eq_some_iff, Prod.exists, ifo, req_some, and2, notf, some2] at hf
  obtain ⟨S1, f1, S2, k, f2, ⟨b1, b2⟩, S3, f3, rfl, rfl⟩ := hf
  have F1 := Lib.hid f1
  have F2 := Lib.hid f2
  have F3 := Lib.hid f3
  have B1 := Lib.hid b1
  have B2 := Lib.hid b2
  have HS0 := Lib.hid h
  have HT0 := Lib.hid (To.refl g R w)
  clear h f1 f2 f3 b1 b2
  dsimp only [ptr]
  go_enter Tryd.func66, Tryd.ntmps66
  go_wp2_with fail
  refine (c69 HS0.out F1.out).mono ?_
  rintro e w1 ⟨rfl, R1, hS, hT⟩
  have HS1 := Lib.hid (hS)
  have HT1 := Lib.hid (HT0.out.trans hT)
  clear hS hT HS0 HT0 
  go_wp2_with fail
  refine (c48 HS1.out).mono ?_
  rintro e w2 ⟨rfl, hb⟩
  have HS2 := Lib.hid (HS1.out.below hb)
  have HT2 := Lib.hid (HT1.out.below hb)
  clear hb HS1 HT1 
  go_wp2_with fail
  refine (c74 _ _ _ _ _ _ _ _ _ HS2.out F2.out).mono ?_
  rintro e w3 ⟨rfl, R3, hS, hT⟩
  have HS3 := Lib.hid (hS)
  have HT3 := Lib.hid (HT2.out.trans hT)
  clear hS hT HS2 HT2 
  go_wp2_with fail
  refine wp_loop_rounds 1 ?_
  rw [rounds_succ]
  go_wp2_with fail
  refine (c44 sList HS3.out).mono ?_
  rintro e w4 ⟨rfl, hb⟩
  rw [B1.out]
  have HS4 := Lib.hid (HS3.out.below hb)
  have HT4 := Lib.hid (HT3.out.below hb)
  clear hb HS3 HT3 
  go_wp2_with fail
  refine (c67 sStar HS4.out).mono ?_
  rintro e w5 ⟨rfl, hb⟩
  rw [B2.out]
  have HS5 := Lib.hid (HS4.out.below hb)
  have HT5 := Lib.hid (HT4.out.below hb)
  clear hb HS4 HT4 
  go_wp2_with fail
  refine (c71 HS5.out F3.out).mono ?_
  rintro e w6 ⟨rfl, R6, hS, hT⟩
  have HS6 := Lib.hid (hS)
  have HT6 := Lib.hid (HT5.out.trans hT)
  clear hS hT HS5 HT5 
  go_wp2_with fail
  go_ret
  exact ⟨rfl, _, HS6.out, HT6.out⟩
end Go.Proofs.YtphojigdapaaiaaDoor
namespace Go.Proofs.YtphojigdapaaiaaDoor
open Go.ChangeShapes Go.WideShapes Go.ChangeAt Go.RowKit
set_option linter.unusedVariables false
set_option linter.unusedSimpArgs false
section
variable {ex : Rd → Option (Rd × Int)}
set_option maxRecDepth 100000 in
set_option maxHeartbeats 8000000 in
theorem c93 (hA : Spec 94 (appF ex)) : Spec 93 (prodF ex) := by
  intro B AL cL g S S' r R w h hf
  simp only [prodF, Option.bind_eq_bind, Option.bind_eq_some_iff, Prod.exists, ifo, req_some, and2, notf, some2] at hf
  obtain ⟨S2, k, f2, ⟨⟨b0, b1⟩, b2⟩, rfl, rfl⟩ := hf
  have F2 := Lib.hid f2
  have B0 := Lib.hid b0
  have B1 := Lib.hid b1
  have B2 := Lib.hid b2
  have HA := Lib.hid hA
  have HS0 := Lib.hid h
  have HT0 := Lib.hid (To.refl g R w)
  clear hA h f2 b0 b1 b2
  dsimp only [ptr]
  go_enter Tryd.func93, Tryd.ntmps93
  go_wp2_with fail
  refine (HA.out _ _ _ _ _ _ _ _ _ HS0.out F2.out).mono ?_
  rintro e w1 ⟨rfl, R1, hS, hT⟩
  have HS1 := Lib.hid (hS)
  have HT1 := Lib.hid (HT0.out.trans hT)
  clear hS hT HS0 HT0 
  go_wp2_with fail
  refine wp_loop_rounds 1 ?_
  rw [rounds_succ]
  go_wp2_with fail
  refine (c67 sStar HS1.out).mono ?_
  rintro e w2 ⟨rfl, hb⟩
  rw [B0.out]
  have HS2 := Lib.hid (HS1.out.below hb)
  have HT2 := Lib.hid (HT1.out.below hb)
  clear hb HS1 HT1 
  go_wp2_with fail
  refine (c67 sSlash HS2.out).mono ?_
  rintro e w3 ⟨rfl, hb⟩
  rw [B1.out]
  have HS3 := Lib.hid (HS2.out.below hb)
  have HT3 := Lib.hid (HT2.out.below hb)
  clear hb HS2 HT2 
  go_wp2_with fail
  refine (c67 sPct HS3.out).mono ?_
  rintro e w4 ⟨rfl, hb⟩
  rw [B2.out]
  have HS4 := Lib.hid (HS3.out.below hb)
  have HT4 := Lib.hid (HT3.out.below hb)
  clear hb HS3 HT3 
  go_wp2_with fail
  go_ret
  exact ⟨rfl, _, HS4.out, HT4.out⟩
set_option maxRecDepth 100000 in
set_option maxHeartbeats 8000000 in
theorem c91 (hA : Spec 93 (prodF ex)) : Spec 91 (sumF ex) := by
  intro B AL cL g S S' r R w h hf
  simp only [sumF, Option.bind_eq_bind, Option.bind_eq_some_iff, Prod.exists, ifo, req_some, and2, notf, some2] at hf
  obtain ⟨S2, k, f2, ⟨⟨b0, b1⟩, b2⟩, rfl, rfl⟩ := hf
  have F2 := Lib.hid f2
  have B0 := Lib.hid b0
  have B1 := Lib.hid b1
  have B2 := Lib.hid b2
  have HA := Lib.hid hA
  have HS0 := Lib.hid h
  have HT0 := Lib.hid (To.refl g R w)
  clear hA h f2 b0 b1 b2
  dsimp only [ptr]
  go_enter Tryd.func91, Tryd.ntmps91
  go_wp2_with fail
  refine (HA.out _ _ _ _ _ _ _ _ _ HS0.out F2.out).mono ?_
  rintro e w1 ⟨rfl, R1, hS, hT⟩
  have HS1 := Lib.hid (hS)
  have HT1 := Lib.hid (HT0.out.trans hT)
  clear hS hT HS0 HT0 
  go_wp2_with fail
  refine wp_loop_rounds 1 ?_
  rw [rounds_succ]
  go_wp2_with fail
  refine (c67 sPlus HS1.out).mono ?_
  rintro e w2 ⟨rfl, hb⟩
  rw [B0.out]
  have HS2 := Lib.hid (HS1.out.below hb)
  have HT2 := Lib.hid (HT1.out.below hb)
  clear hb HS1 HT1 
  go_wp2_with fail
  refine (c67 sMinus HS2.out).mono ?_
  rintro e w3 ⟨rfl, hb⟩
  rw [B1.out]
  have HS3 := Lib.hid (HS2.out.below hb)
  have HT3 := Lib.hid (HT2.out.below hb)
  clear hb HS2 HT2 
  go_wp2_with fail
  refine (c67 sHat HS3.out).mono ?_
  rintro e w4 ⟨rfl, hb⟩
  rw [B2.out]
  have HS4 := Lib.hid (HS3.out.below hb)
  have HT4 := Lib.hid (HT3.out.below hb)
  clear hb HS3 HT3 
  go_wp2_with fail
  go_ret
  exact ⟨rfl, _, HS4.out, HT4.out⟩
set_option maxRecDepth 100000 in
set_option maxHeartbeats 8000000 in
theorem c88 (hA : Spec 91 (sumF ex)) : Spec 88 (consF ex) := by
  intro B AL cL g S S' r R w h hf
  simp only [consF, Option.bind_eq_bind, Option.bind_eq_some_iff, Prod.exists, ifo, req_some, and2, notf, some2] at hf
  obtain ⟨S1, f1, S2, k, f2, b0, S3, f3, rfl, rfl⟩ := hf
  have F1 := Lib.hid f1
  have F2 := Lib.hid f2
  have F3 := Lib.hid f3
  have B0 := Lib.hid b0
  have HA := Lib.hid hA
  have HS0 := Lib.hid h
  have HT0 := Lib.hid (To.refl g R w)
  clear hA h f1 f2 f3 b0
  dsimp only [ptr]
  go_enter Tryd.func88, Tryd.ntmps88
  go_wp2_with fail
  refine (c69 HS0.out F1.out).mono ?_
  rintro e w1 ⟨rfl, R1, hS, hT⟩
  have HS1 := Lib.hid (hS)
  have HT1 := Lib.hid (HT0.out.trans hT)
  clear hS hT HS0 HT0 
  go_wp2_with fail
  refine (HA.out _ _ _ _ _ _ _ _ _ HS1.out F2.out).mono ?_
  rintro e w2 ⟨rfl, R2, hS, hT⟩
  have HS2 := Lib.hid (hS)
  have HT2 := Lib.hid (HT1.out.trans hT)
  clear hS hT HS1 HT1 
  go_wp2_with fail
  refine (c67 sCc HS2.out).mono ?_
  rintro e w3 ⟨rfl, hb⟩
  rw [B0.out]
  have HS3 := Lib.hid (HS2.out.below hb)
  have HT3 := Lib.hid (HT2.out.below hb)
  clear hb HS2 HT2 
  go_wp2_with fail
  refine (c71 HS3.out F3.out).mono ?_
  rintro e w4 ⟨rfl, R4, hS, hT⟩
  have HS4 := Lib.hid (hS)
  have HT4 := Lib.hid (HT3.out.trans hT)
  clear hS hT HS3 HT3 
  go_wp2_with fail
  go_ret
  exact ⟨rfl, _, HS4.out, HT4.out⟩
set_option maxRecDepth 100000 in
set_option maxHeartbeats 8000000 in
theorem c81 (hA : Spec 88 (consF ex)) : Spec 81 (cmpF ex) := by
  intro B AL cL g S S' r R w h hf
  simp only [cmpF, Option.bind_eq_bind, Option.bind_eq_some_iff, Prod.exists, ifo, req_some, and2, notf, some2] at hf
  obtain ⟨S2, k, f2, ⟨b0, b1⟩, rfl, rfl⟩ := hf
  have F2 := Lib.hid f2
  have B0 := Lib.hid b0
  have B1 := Lib.hid b1
  have HA := Lib.hid hA
  have HS0 := Lib.hid h
  have HT0 := Lib.hid (To.refl g R w)
  clear hA h f2 b0 b1
  dsimp only [ptr]
  go_enter Tryd.func81, Tryd.ntmps81
  go_wp2_with fail
  refine (HA.out _ _ _ _ _ _ _ _ _ HS0.out F2.out).mono ?_
  rintro e w1 ⟨rfl, R1, hS, hT⟩
  have HS1 := Lib.hid (hS)
  have HT1 := Lib.hid (HT0.out.trans hT)
  clear hS hT HS0 HT0 
  go_wp2_with fail
  refine (c67 sEq HS1.out).mono ?_
  rintro e w2 ⟨rfl, hb⟩
  rw [B0.out]
  have HS2 := Lib.hid (HS1.out.below hb)
  have HT2 := Lib.hid (HT1.out.below hb)
  clear hb HS1 HT1 
  go_wp2_with fail
  refine (c67 sLess HS2.out).mono ?_
  rintro e w3 ⟨rfl, hb⟩
  rw [B1.out]
  have HS3 := Lib.hid (HS2.out.below hb)
  have HT3 := Lib.hid (HT2.out.below hb)
  clear hb HS2 HT2 
  go_wp2_with fail
  go_ret
  exact ⟨rfl, _, HS3.out, HT3.out⟩
set_option maxRecDepth 100000 in
set_option maxHeartbeats 8000000 in
theorem c76 (hA : Spec 81 (cmpF ex)) : Spec 76 (setF ex) := by
  intro B AL cL g S S' r R w h hf
  simp only [setF, Option.bind_eq_bind, Option.bind_eq_some_iff, Prod.exists, ifo, req_some, and2, notf, some2] at hf
  obtain ⟨S2, k, f2, b0, rfl, rfl⟩ := hf
  have F2 := Lib.hid f2
  have B0 := Lib.hid b0
  have HA := Lib.hid hA
  have HS0 := Lib.hid h
  have HT0 := Lib.hid (To.refl g R w)
  clear hA h f2 b0
  dsimp only [ptr]
  go_enter Tryd.func76, Tryd.ntmps76
  go_wp2_with fail
  refine (HA.out _ _ _ _ _ _ _ _ _ HS0.out F2.out).mono ?_
  rintro e w1 ⟨rfl, R1, hS, hT⟩
  have HS1 := Lib.hid (hS)
  have HT1 := Lib.hid (HT0.out.trans hT)
  clear hS hT HS0 HT0 
  go_wp2_with fail
  refine (c67 sSet HS1.out).mono ?_
  rintro e w2 ⟨rfl, hb⟩
  rw [B0.out]
  have HS2 := Lib.hid (HS1.out.below hb)
  have HT2 := Lib.hid (HT1.out.below hb)
  clear hb HS1 HT1 
  go_wp2_with fail
  go_ret
  exact ⟨rfl, _, HS2.out, HT2.out⟩
set_option maxRecDepth 100000 in
set_option maxHeartbeats 8000000 in
theorem c96 (hA : Spec 99 (atomOfF ex)) : Spec 96 (atomF ex) := by
  intro B AL cL g S S' r R w h hf
  simp only [atomF, Option.bind_eq_bind, Option.bind_eq_some_iff, Prod.exists, ifo, req_some, and2, notf, some2] at hf
  obtain ⟨S1, f1, S2, k, f2, S3, f3, rfl, rfl⟩ := hf
  have F1 := Lib.hid f1
  have F2 := Lib.hid f2
  have F3 := Lib.hid f3
  have HA := Lib.hid hA
  have HS0 := Lib.hid h
  have HT0 := Lib.hid (To.refl g R w)
  clear hA h f1 f2 f3
  dsimp only [ptr]
  go_enter Tryd.func96, Tryd.ntmps96
  go_wp2_with fail
  refine (c69 HS0.out F1.out).mono ?_
  rintro e w1 ⟨rfl, R1, hS, hT⟩
  have HS1 := Lib.hid (hS)
  have HT1 := Lib.hid (HT0.out.trans hT)
  clear hS hT HS0 HT0 
  go_wp2_with fail
  refine (HA.out _ _ _ _ _ _ _ _ _ HS1.out F2.out).mono ?_
  rintro e w2 ⟨rfl, R2, hS, hT⟩
  have HS2 := Lib.hid (hS)
  have HT2 := Lib.hid (HT1.out.trans hT)
  clear hS hT HS1 HT1 
  go_wp2_with fail
  refine (c71 HS2.out F3.out).mono ?_
  rintro e w3 ⟨rfl, R3, hS, hT⟩
  have HS3 := Lib.hid (hS)
  have HT3 := Lib.hid (HT2.out.trans hT)
  clear hS hT HS2 HT2 
  go_wp2_with fail
  go_ret
  exact ⟨rfl, _, HS3.out, HT3.out⟩
end
end Go.Proofs.YtphojigdapaaiaaDoor
