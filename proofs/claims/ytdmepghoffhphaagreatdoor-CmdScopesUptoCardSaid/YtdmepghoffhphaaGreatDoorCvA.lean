/- PROVED: contracts of the functions that CmdScopes reaches, and what an expression is that is written and read again (part CvA). CONDITIONS: none. -/
set_option linter.unusedSimpArgs false
set_option linter.unusedVariables false
set_option linter.unnecessarySimpa false
set_option maxHeartbeats 1000000
namespace Go.Proofs.YtdmepghoffhphaaGreatDoor
structure Vl where
  k : Int
  n : Int
  s : ByteArray
deriving DecidableEq
def okV (x : Vl) : Bool :=
  if x.k = 0 then x.n = 0 && x.s = ByteArray.empty
  else if x.k = 1 then (x.n = 0 || x.n = 1) && x.s = ByteArray.empty
  else if x.k = 2 then decide (-1000000000000000 <= x.n) && decide (x.n <= 1000000000000000) && x.s = ByteArray.empty
  else if x.k = 3 then decide (0 <= x.n) && decide (x.n <= 3652059) && x.s = ByteArray.empty
  else x.k = 4 && x.n = 0
def errV (x : Vl) : Int := if 2048 < x.s.size then 3 else if okV x then 0 else 1
def vd0 : Vl := ⟨0, 0, ByteArray.empty⟩
inductive Ex where
  | mk (op : Int) (s : ByteArray) (v : Vl) (p : List ByteArray) (l : List Ex)
namespace Ex
def op : Ex -> Int | mk o _ _ _ _ => o
def s : Ex -> ByteArray | mk _ s _ _ _ => s
def v : Ex -> Vl | mk _ _ v _ _ => v
def p : Ex -> List ByteArray | mk _ _ _ p _ => p
def l : Ex -> List Ex | mk _ _ _ _ l => l
def zero : Ex := mk 0 ByteArray.empty vd0 [] []
def cst (v : Vl) : Ex := mk 0 ByteArray.empty v [] []
def nam (s : ByteArray) : Ex := mk 1 s vd0 [] []
def un (s : ByteArray) (x : Ex) : Ex := mk 4 s vd0 [] [x]
def bin (s : ByteArray) (x y : Ex) : Ex := mk 5 s vd0 [] [x, y]
end Ex
mutual
def nodes : Ex -> Nat
  | .mk _ _ _ _ l => 1 + nodesL l
def nodesL : List Ex -> Nat
  | [] => 0
  | x :: r => nodes x + nodesL r
end
mutual
def levels : Ex -> Nat
  | .mk _ _ _ _ l => 1 + levelsL l
def levelsL : List Ex -> Nat
  | [] => 0
  | x :: r => max (levels x) (levelsL r)
end
def isLarge (x : Ex) : Bool := decide (400 < nodes x) || decide (14 < levels x)
def upB (c : UInt8) : Bool := c == 95 || (65 <= c && c <= 90)
def digB (c : UInt8) : Bool := 48 <= c && c <= 57
def nameB (s : ByteArray) : Bool := decide (1 <= s.size) && decide (s.size <= 10) && s.data.toList.all (fun c => upB c || digB c) && !(s.data.toList.headD 48 |> digB)
def chrB (c : UInt8) : Bool := c == 9 || (32 <= c && c <= 126)
def textB (s : ByteArray) : Bool := s.data.toList.all chrB && !(s.data.toList.contains 34 && s.data.toList.contains 39)
def constB (v : Vl) : Bool :=
  if v.k = 0 then v.n = 0 && v.s = ByteArray.empty
  else if v.k = 1 then (v.n = 0 || v.n = 1) && v.s = ByteArray.empty
  else if v.k = 2 then decide (0 <= v.n) && decide (v.n <= 999999999999999) && v.s = ByteArray.empty
  else if v.k = 3 then decide (0 <= v.n) && decide (v.n <= 3652059) && v.s = ByteArray.empty
  else v.k = 4 && v.n = 0 && decide (v.s.size <= 2048) && textB v.s
def sOr : ByteArray := ⟨#[46, 79, 82, 46]⟩
def sAnd : ByteArray := ⟨#[46, 65, 78, 68, 46]⟩
def sNot : ByteArray := ⟨#[46, 78, 79, 84, 46]⟩
def sBang : ByteArray := ⟨#[33]⟩
def sEq : ByteArray := ⟨#[61]⟩
def sEqEq : ByteArray := ⟨#[61, 61]⟩
def sNe : ByteArray := ⟨#[60, 62]⟩
def sHash : ByteArray := ⟨#[35]⟩
def sBangEq : ByteArray := ⟨#[33, 61]⟩
def sLt : ByteArray := ⟨#[60]⟩
def sGt : ByteArray := ⟨#[62]⟩
def sLe : ByteArray := ⟨#[60, 61]⟩
def sGe : ByteArray := ⟨#[62, 61]⟩
def sDollar : ByteArray := ⟨#[36]⟩
def sPlus : ByteArray := ⟨#[43]⟩
def sMinus : ByteArray := ⟨#[45]⟩
def sStar : ByteArray := ⟨#[42]⟩
def sSlash : ByteArray := ⟨#[47]⟩
def sPct : ByteArray := ⟨#[37]⟩
def sHat : ByteArray := ⟨#[94]⟩
def sLb : ByteArray := ⟨#[91]⟩
def sRb : ByteArray := ⟨#[93]⟩
def sLp : ByteArray := ⟨#[40]⟩
def sRp : ByteArray := ⟨#[41]⟩
def sLc : ByteArray := ⟨#[123]⟩
def sRc : ByteArray := ⟨#[125]⟩
def sBar : ByteArray := ⟨#[124]⟩
def sComma : ByteArray := ⟨#[44]⟩
def sAmp : ByteArray := ⟨#[38]⟩
def sDot : ByteArray := ⟨#[46]⟩
def sAt : ByteArray := ⟨#[64]⟩
def sArrow : ByteArray := ⟨#[45, 62]⟩
def sTrue : ByteArray := ⟨#[46, 84, 46]⟩
def sFalse : ByteArray := ⟨#[46, 70, 46]⟩
def sNull : ByteArray := ⟨#[46, 78, 85, 76, 76, 46]⟩
def opsL : List ByteArray := [sDollar, sPct, sStar, sPlus, sMinus, sAnd, sOr, sSlash, sLt, sLe, sNe, sEq, sEqEq, sGt, sGe, sHat]
def opB (s : ByteArray) : Bool := opsL.any fun a => decide (a = s)
theorem memB {l : List ByteArray} {c : ByteArray} (h : (l.any fun a => decide (a = c)) = true) : c ∈ l := by
  obtain ⟨a, ha, e⟩ := List.any_eq_true.1 h
  have := of_decide_eq_true e
  subst this; exact ha
def opOk (op : Int) (s : ByteArray) (v : Vl) (p : List ByteArray) (n : Nat) : Bool :=
  if op = 0 then s = ByteArray.empty && n = 0 && constB v
  else if op = 1 || op = 10 then nameB s && n = 0
  else if op = 2 then nameB s && n = 1
  else if op = 3 then nameB s
  else if op = 4 then (s = sMinus || s = sNot) && n = 1
  else if op = 5 then opB s && n = 2
  else if op = 6 then s = ByteArray.empty && n = 2
  else if op = 7 then s = ByteArray.empty && decide (1 <= n)
  else if op = 8 then s = ByteArray.empty && n = 1 && p.all nameB
  else if op = 9 then (nameB s && n = 0) || (s = ByteArray.empty && n = 1)
  else false
mutual
def isEx : Ex -> Bool
  | .mk op s v p l => !(op != 0 && v != vd0) && !(op != 8 && !p.isEmpty) && allEx l && opOk op s v p l.length
def allEx : List Ex -> Bool
  | [] => true
  | x :: r => isEx x && allEx r
end
def valEx (x : Ex) : Int := if isLarge x then 3 else if isEx x then 0 else 1
def errL : List Ex -> Int
  | [] => 0
  | x :: r => if valEx x = 0 then errL r else valEx x
def errSc (k : Int) (n f w : List Ex) : Int :=
  if k < 0 || 4 < k || (n.length : Int) != (if k = 2 || k = 4 then 1 else 0) || 1 < f.length || 1 < w.length then 1 else errL (n ++ f ++ w)
structure Tk where
  k : Int
  t : ByteArray
deriving DecidableEq
def W (s : ByteArray) : Tk := ⟨0, s⟩
def S (s : ByteArray) : Tk := ⟨4, s⟩
def digs : List UInt8 -> Int -> Int
  | [], n => n
  | c :: r, n => if digB c then digs r (min (10 * n + ((c.toNat : Int) - 48)) 1000000000000000) else n
def valOf (s : ByteArray) : Int :=
  match s.data.toList.dropWhile (· == 32) with
  | 45 :: r => - digs r 0
  | 43 :: r => digs r 0
  | r => digs r 0
def leap (y : Int) : Bool := (y.tmod 4 == 0 && y.tmod 100 != 0) || y.tmod 400 == 0
def mlen (y m : Int) : Int := if m = 2 then (if leap y then 29 else 28) else if m = 4 || m = 6 || m = 9 || m = 11 then 30 else 31
def mdays (y : Int) : Nat -> Int
  | 0 => 0
  | m + 1 => mdays y m + mlen y (m + 1 : Nat)
def dayOf (y m d : Int) : Option Int :=
  if y < 1 || 9999 < y || m < 1 || 12 < m || d < 1 || mlen y m < d then none
  else some (d + mdays y (m - 1).toNat + 365 * (y - 1) + (y - 1).tdiv 4 - (y - 1).tdiv 100 + (y - 1).tdiv 400)
def sub (s : ByteArray) (a b : Nat) : ByteArray := ⟨(s.data.toList.drop a |>.take (b - a)).toArray⟩
def unstamp (s : ByteArray) : Int :=
  if s.data.toList.length = 8 && s.data.toList.all digB then (dayOf (valOf (sub s 0 4)) (valOf (sub s 4 6)) (valOf (sub s 6 8))).getD 0 else 0
abbrev St := List Tk × Bool
def tok (s : St) (k : Nat) : Tk := s.1.getD k ⟨-1, ByteArray.empty⟩
def isSg (s : St) (k : Nat) (c : ByteArray) : Bool := decide ((tok s k).k = 4) && decide ((tok s k).t = c)
def next (s : St) : St := if s.2 then s else (s.1.drop 1, s.2)
def take (c : ByteArray) (s : St) : Bool × St := if s.2 || !isSg s 0 c then (false, s) else (true, (s.1.drop 1, s.2))
def want (c : ByteArray) (s : St) : St := if (take c s).1 then (take c s).2 else (s.1, true)
def sgn : List ByteArray -> St -> Option ByteArray × St
  | [], s => (none, s)
  | c :: r, s => if (take c s).1 then (some c, (take c s).2) else sgn r s
def rname (s : St) : ByteArray × St := if s.2 || (tok s 0).k != 0 || decide (10 < (tok s 0).t.size) then (ByteArray.empty, (s.1, true)) else ((tok s 0).t, (s.1.drop 1, s.2))
def lNames : Nat -> List ByteArray -> St -> Option (List ByteArray × St)
  | 0, _, _ => none
  | f + 1, l, s => if (take sComma s).1 then let r := rname (take sComma s).2; lNames f (l ++ [r.1]) r.2 else some (l, s)
def pNames (f : Nat) (s : St) : Option (List ByteArray × St) := let r := rname s; lNames f [r.1] r.2
def cmps : List ByteArray := [sEq, sEqEq, sNe, sHash, sBangEq, sLt, sGt, sLe, sGe, sDollar]
def prims : List ByteArray := [sTrue, sFalse, sNull, sLp, sLc, sAt]
def norm (c : ByteArray) : ByteArray := if c = sHash || c = sBangEq then sNe else c
mutual
def pExpr : Nat -> St -> Option (Ex × St)
  | 0, _ => none
  | f + 1, s => (pAnd f s).bind fun r => lOr f r.1 r.2
def lOr : Nat -> Ex -> St -> Option (Ex × St)
  | 0, _, _ => none
  | f + 1, x, s => if (take sOr s).1 then (pAnd f (take sOr s).2).bind fun r => lOr f (.bin sOr x r.1) r.2 else some (x, s)
def pAnd : Nat -> St -> Option (Ex × St)
  | 0, _ => none
  | f + 1, s => (pNot f s).bind fun r => lAnd f r.1 r.2
def lAnd : Nat -> Ex -> St -> Option (Ex × St)
  | 0, _, _ => none
  | f + 1, x, s => if (take sAnd s).1 then (pNot f (take sAnd s).2).bind fun r => lAnd f (.bin sAnd x r.1) r.2 else some (x, s)
def pNot : Nat -> St -> Option (Ex × St)
  | 0, _ => none
  | f + 1, s =>
    if (sgn [sNot, sBang] s).1.isSome then (pNot f (sgn [sNot, sBang] s).2).bind fun r => some (.un sNot r.1, r.2)
    else (pSum f s).bind fun r =>
      match sgn cmps r.2 with
      | (none, s') => some (r.1, s')
      | (some c, s') => (pSum f s').bind fun q => some (.bin (norm c) r.1 q.1, q.2)
def pSum : Nat -> St -> Option (Ex × St)
  | 0, _ => none
  | f + 1, s => (pProd f s).bind fun r => lSum f r.1 r.2
def lSum : Nat -> Ex -> St -> Option (Ex × St)
  | 0, _, _ => none
  | f + 1, x, s =>
    match sgn [sPlus, sMinus] s with
    | (none, s') => some (x, s')
    | (some c, s') => (pProd f s').bind fun r => lSum f (.bin c x r.1) r.2
def pProd : Nat -> St -> Option (Ex × St)
  | 0, _ => none
  | f + 1, s => (pPow f s).bind fun r => lProd f r.1 r.2
def lProd : Nat -> Ex -> St -> Option (Ex × St)
  | 0, _, _ => none
  | f + 1, x, s =>
    match sgn [sStar, sSlash, sPct] s with
    | (none, s') => some (x, s')
    | (some c, s') => (pPow f s').bind fun r => lProd f (.bin c x r.1) r.2
def pPow : Nat -> St -> Option (Ex × St)
  | 0, _ => none
  | f + 1, s => (pUn f s).bind fun r => if (take sHat r.2).1 then (pPow f (take sHat r.2).2).bind fun q => some (.bin sHat r.1 q.1, q.2) else some (r.1, r.2)
def pUn : Nat -> St -> Option (Ex × St)
  | 0, _ => none
  | f + 1, s => if (take sMinus s).1 then (pUn f (take sMinus s).2).bind fun r => some (.un sMinus r.1, r.2) else (pPrim f s).bind fun r => lIdx f r.1 r.2
def lIdx : Nat -> Ex -> St -> Option (Ex × St)
  | 0, _, _ => none
  | f + 1, x, s => if (take sLb s).1 then (pExpr f (take sLb s).2).bind fun r => lIdx f (.mk 6 ByteArray.empty vd0 [] [x, r.1]) (want sRb r.2) else some (x, s)
def pPrim : Nat -> St -> Option (Ex × St)
  | 0, _ => none
  | f + 1, s =>
    if s.2 then some (.zero, s)
    else if (tok s 0).k = 1 then some (.cst ⟨2, valOf (tok s 0).t, ByteArray.empty⟩, next s)
    else if (tok s 0).k = 2 && decide ((tok s 0).t.size <= 2048) then some (.cst ⟨4, 0, (tok s 0).t⟩, next s)
    else if (tok s 0).k = 3 then some (.cst ⟨3, unstamp (tok s 0).t, ByteArray.empty⟩, next s)
    else if (tok s 0).k = 0 then pNamed f s
    else if isSg s 0 sAmp then pMacro f s
    else
      match sgn prims s with
      | (none, s') => some (.zero, (s'.1, true))
      | (some c, s') =>
        if c = sTrue then some (.cst ⟨1, 1, ByteArray.empty⟩, s')
        else if c = sFalse then some (.cst ⟨1, 0, ByteArray.empty⟩, s')
        else if c = sNull then some (.zero, s')
        else if c = sLp then (pExpr f s').bind fun r => some (r.1, want sRp r.2)
        else if c = sLc then pBraces f s'
        else some (.mk 10 (rname s').1 vd0 [] [], (rname s').2)
def pMacro : Nat -> St -> Option (Ex × St)
  | 0, _ => none
  | f + 1, s =>
    if (take sLp (want sAmp s)).1 then (pExpr f (take sLp (want sAmp s)).2).bind fun r => some (.mk 9 ByteArray.empty vd0 [] [r.1], want sRp r.2)
    else some (.mk 9 (rname (want sAmp s)).1 vd0 [] [], (take sDot (rname (want sAmp s)).2).2)
def pNamed : Nat -> St -> Option (Ex × St)
  | 0, _ => none
  | f + 1, s =>
    if isSg s 1 sLp then (pClosed f sRp (want sLp (rname s).2)).bind fun r => some (.mk 3 (rname s).1 vd0 [] r.1, r.2)
    else if (take sArrow (rname s).2).1 then
      if (take sLp (take sArrow (rname s).2).2).1 then (pExpr f (take sLp (take sArrow (rname s).2).2).2).bind fun r => some (.mk 2 (rname s).1 vd0 [] [r.1], want sRp r.2)
      else some (.mk 2 (rname s).1 vd0 [] [.nam (rname (take sLp (take sArrow (rname s).2).2).2).1], (rname (take sLp (take sArrow (rname s).2).2).2).2)
    else some (.nam (rname s).1, (take sArrow (rname s).2).2)
def pClosed : Nat -> ByteArray -> St -> Option (List Ex × St)
  | 0, _, _ => none
  | f + 1, c, s => if (take c s).1 then some ([], (take c s).2) else (pList f s).bind fun r => some (r.1, want c r.2)
def pList : Nat -> St -> Option (List Ex × St)
  | 0, _ => none
  | f + 1, s => (pExpr f s).bind fun r => lList f [r.1] r.2
def lList : Nat -> List Ex -> St -> Option (List Ex × St)
  | 0, _, _ => none
  | f + 1, l, s => if (take sComma s).1 then (pExpr f (take sComma s).2).bind fun r => lList f (l ++ [r.1]) r.2 else some (l, s)
def pBraces : Nat -> St -> Option (Ex × St)
  | 0, _ => none
  | f + 1, s =>
    if (take sBar s).1 then
      if (take sBar (take sBar s).2).1 then (pExpr f (take sBar (take sBar s).2).2).bind fun r => some (.mk 8 ByteArray.empty vd0 [] [r.1], want sRc r.2)
      else (pNames f (take sBar s).2).bind fun r => (pExpr f (want sBar r.2)).bind fun q => some (.mk 8 ByteArray.empty vd0 r.1 [q.1], want sRc q.2)
    else (pList f s).bind fun r => some (.mk 7 ByteArray.empty vd0 [] r.1, want sRc r.2)
end
def Fr (s s' : St) : Prop := (s'.2 = false -> s.2 = false) /\ s'.1 <:+ s.1
theorem Fr.refl (s : St) : Fr s s := ⟨id, List.suffix_refl _⟩
theorem Fr.trans {a b c : St} (h : Fr a b) (k : Fr b c) : Fr a c := ⟨fun e => h.1 (k.1 e), k.2.trans h.2⟩
theorem Fr.fail (s : St) : Fr s (s.1, true) := ⟨fun h => by simp at h, List.suffix_refl _⟩
theorem Fr.drop (s : St) : Fr s (s.1.drop 1, s.2) := ⟨id, List.drop_suffix _ _⟩
theorem fr_next (s : St) : Fr s (next s) := by unfold next; split; exact .refl _; exact .drop _
theorem fr_take (c : ByteArray) (s : St) : Fr s (take c s).2 := by unfold take; split; exact .refl _; exact .drop _
theorem fr_want (c : ByteArray) (s : St) : Fr s (want c s) := by unfold want; split; exact fr_take _ _; exact .fail _
theorem fr_rname (s : St) : Fr s (rname s).2 := by unfold rname; split; exact .fail _; exact .drop _
theorem fr_sgn : ∀ (l : List ByteArray) (s : St), Fr s (sgn l s).2
  | [], s => .refl _
  | c :: r, s => by unfold sgn; split; exact fr_take _ _; exact fr_sgn r s
theorem fr_lNames : ∀ (f : Nat) (l : List ByteArray) (s : St) r, lNames f l s = some r -> Fr s r.2
  | 0, l, s, r, h => by simp [lNames] at h
  | f + 1, l, s, r, h => by
    unfold lNames at h
    split at h
    · exact ((fr_take _ _).trans (fr_rname _)).trans (fr_lNames f _ _ _ h)
    · cases h; exact .refl _
theorem fr_pNames (f : Nat) (s : St) r (h : pNames f s = some r) : Fr s r.2 := (fr_rname s).trans (fr_lNames _ _ _ _ h)
structure FrA (f : Nat) : Prop where
  ex : ∀ s r, pExpr f s = some r -> Fr s r.2
  lor : ∀ x s r, lOr f x s = some r -> Fr s r.2
  an : ∀ s r, pAnd f s = some r -> Fr s r.2
  lan : ∀ x s r, lAnd f x s = some r -> Fr s r.2
  no : ∀ s r, pNot f s = some r -> Fr s r.2
  su : ∀ s r, pSum f s = some r -> Fr s r.2
  lsu : ∀ x s r, lSum f x s = some r -> Fr s r.2
  pr : ∀ s r, pProd f s = some r -> Fr s r.2
  lpr : ∀ x s r, lProd f x s = some r -> Fr s r.2
  po : ∀ s r, pPow f s = some r -> Fr s r.2
  un : ∀ s r, pUn f s = some r -> Fr s r.2
  lix : ∀ x s r, lIdx f x s = some r -> Fr s r.2
  pm : ∀ s r, pPrim f s = some r -> Fr s r.2
  ma : ∀ s r, pMacro f s = some r -> Fr s r.2
  na : ∀ s r, pNamed f s = some r -> Fr s r.2
  cl : ∀ c s r, pClosed f c s = some r -> Fr s r.2
  li : ∀ s r, pList f s = some r -> Fr s r.2
  lli : ∀ l s r, lList f l s = some r -> Fr s r.2
  br : ∀ s r, pBraces f s = some r -> Fr s r.2
theorem frA : ∀ f, FrA f
  | 0 => by constructor <;> intros <;> rename_i h <;> first | (simp [pExpr] at h; done) | (simp [lOr] at h; done) | (simp [pAnd] at h; done) | (simp [lAnd] at h; done) | (simp [pNot] at h; done) | (simp [pSum] at h; done) | (simp [lSum] at h; done) | (simp [pProd] at h; done) | (simp [lProd] at h; done) | (simp [pPow] at h; done) | (simp [pUn] at h; done) | (simp [lIdx] at h; done) | (simp [pPrim] at h; done) | (simp [pMacro] at h; done) | (simp [pNamed] at h; done) | (simp [pClosed] at h; done) | (simp [pList] at h; done) | (simp [lList] at h; done) | (simp [pBraces] at h; done)
  | f + 1 => by
    have I := frA f
    refine ⟨?_, ?_, ?_, ?_, ?_, ?_, ?_, ?_, ?_, ?_, ?_, ?_, ?_, ?_, ?_, ?_, ?_, ?_, ?_⟩
    · intro s r h
      obtain ⟨a, h1, h2⟩ := Option.bind_eq_some_iff.1 h
      exact (I.an _ _ h1).trans (I.lor _ _ _ h2)
    · intro x s r h
      unfold lOr at h
      split at h
      · obtain ⟨a, h1, h2⟩ := Option.bind_eq_some_iff.1 h
        exact ((fr_take _ _).trans (I.an _ _ h1)).trans (I.lor _ _ _ h2)
      · cases h; exact .refl _
    · intro s r h
      obtain ⟨a, h1, h2⟩ := Option.bind_eq_some_iff.1 h
      exact (I.no _ _ h1).trans (I.lan _ _ _ h2)
    · intro x s r h
      unfold lAnd at h
      split at h
      · obtain ⟨a, h1, h2⟩ := Option.bind_eq_some_iff.1 h
        exact ((fr_take _ _).trans (I.no _ _ h1)).trans (I.lan _ _ _ h2)
      · cases h; exact .refl _
    · intro s r h
      unfold pNot at h
      split at h
      · obtain ⟨a, h1, h2⟩ := Option.bind_eq_some_iff.1 h
        have k := I.no _ _ h1
        cases h2
        exact (fr_sgn _ _).trans k
      · obtain ⟨a, h1, h2⟩ := Option.bind_eq_some_iff.1 h
        have k := fr_sgn cmps a.2
        split at h2
        · rename_i s' e; rw [e] at k; cases h2; exact (I.su _ _ h1).trans k
        · rename_i c s' e; rw [e] at k
          obtain ⟨b, h3, h4⟩ := Option.bind_eq_some_iff.1 h2
          have k2 := I.su _ _ h3
          cases h4
          exact ((I.su _ _ h1).trans k).trans k2
    · intro s r h
      obtain ⟨a, h1, h2⟩ := Option.bind_eq_some_iff.1 h
      exact (I.pr _ _ h1).trans (I.lsu _ _ _ h2)
    · intro x s r h
      unfold lSum at h
      have k := fr_sgn [sPlus, sMinus] s
      split at h
      · rename_i s' e; rw [e] at k; cases h; exact k
      · rename_i c s' e; rw [e] at k
        obtain ⟨b, h3, h4⟩ := Option.bind_eq_some_iff.1 h
        exact (k.trans (I.pr _ _ h3)).trans (I.lsu _ _ _ h4)
    · intro s r h
      obtain ⟨a, h1, h2⟩ := Option.bind_eq_some_iff.1 h
      exact (I.po _ _ h1).trans (I.lpr _ _ _ h2)
    · intro x s r h
      unfold lProd at h
      have k := fr_sgn [sStar, sSlash, sPct] s
      split at h
      · rename_i s' e; rw [e] at k; cases h; exact k
      · rename_i c s' e; rw [e] at k
        obtain ⟨b, h3, h4⟩ := Option.bind_eq_some_iff.1 h
        exact (k.trans (I.po _ _ h3)).trans (I.lpr _ _ _ h4)
    · intro s r h
      obtain ⟨a, h1, h2⟩ := Option.bind_eq_some_iff.1 h
      split at h2
      · obtain ⟨b, h3, h4⟩ := Option.bind_eq_some_iff.1 h2
        have k2 := I.po _ _ h3
        cases h4
        exact ((I.un _ _ h1).trans (fr_take _ _)).trans k2
      · cases h2; exact I.un _ _ h1
    · intro s r h
      unfold pUn at h
      split at h
      · obtain ⟨b, h3, h4⟩ := Option.bind_eq_some_iff.1 h
        have k2 := I.un _ _ h3
        cases h4
        exact (fr_take _ _).trans k2
      · obtain ⟨b, h3, h4⟩ := Option.bind_eq_some_iff.1 h
        exact (I.pm _ _ h3).trans (I.lix _ _ _ h4)
    · intro x s r h
      unfold lIdx at h
      split at h
      · obtain ⟨b, h3, h4⟩ := Option.bind_eq_some_iff.1 h
        exact (((fr_take _ _).trans (I.ex _ _ h3)).trans (fr_want _ _)).trans (I.lix _ _ _ h4)
      · cases h; exact .refl _
    · intro s r h
      unfold pPrim at h
      have k := fr_sgn prims s
      split at h
      · cases h; exact .refl _
      split at h
      · cases h; exact fr_next _
      split at h
      · cases h; exact fr_next _
      split at h
      · cases h; exact fr_next _
      split at h
      · exact I.na _ _ h
      split at h
      · exact I.ma _ _ h
      split at h
      · rename_i s' e; rw [e] at k; cases h; exact k.trans (.fail _)
      · rename_i c s' e; rw [e] at k
        split at h
        · cases h; exact k
        split at h
        · cases h; exact k
        split at h
        · cases h; exact k
        split at h
        · obtain ⟨b, h3, h4⟩ := Option.bind_eq_some_iff.1 h
          cases h4
          exact (k.trans (I.ex _ _ h3)).trans (fr_want _ _)
        split at h
        · exact k.trans (I.br _ _ h)
        · cases h; exact k.trans (fr_rname _)
    · intro s r h
      unfold pMacro at h
      split at h
      · obtain ⟨b, h3, h4⟩ := Option.bind_eq_some_iff.1 h
        cases h4
        exact (((fr_want _ _).trans (fr_take _ _)).trans (I.ex _ _ h3)).trans (fr_want _ _)
      · cases h; exact ((fr_want _ _).trans (fr_rname _)).trans (fr_take _ _)
    · intro s r h
      unfold pNamed at h
      split at h
      · obtain ⟨b, h3, h4⟩ := Option.bind_eq_some_iff.1 h
        cases h4
        exact ((fr_rname _).trans (fr_want _ _)).trans (I.cl _ _ _ h3)
      split at h
      · split at h
        · obtain ⟨b, h3, h4⟩ := Option.bind_eq_some_iff.1 h
          cases h4
          exact ((((fr_rname _).trans (fr_take _ _)).trans (fr_take _ _)).trans (I.ex _ _ h3)).trans (fr_want _ _)
        · cases h
          exact (((fr_rname _).trans (fr_take _ _)).trans (fr_take _ _)).trans (fr_rname _)
      · cases h
        exact (fr_rname _).trans (fr_take _ _)
    · intro c s r h
      unfold pClosed at h
      split at h
      · cases h; exact fr_take _ _
      · obtain ⟨b, h3, h4⟩ := Option.bind_eq_some_iff.1 h
        cases h4
        exact (I.li _ _ h3).trans (fr_want _ _)
    · intro s r h
      obtain ⟨a, h1, h2⟩ := Option.bind_eq_some_iff.1 h
      exact (I.ex _ _ h1).trans (I.lli _ _ _ h2)
    · intro l s r h
      unfold lList at h
      split at h
      · obtain ⟨b, h3, h4⟩ := Option.bind_eq_some_iff.1 h
        exact ((fr_take _ _).trans (I.ex _ _ h3)).trans (I.lli _ _ _ h4)
      · cases h; exact .refl _
    · intro s r h
      unfold pBraces at h
      split at h
      · split at h
        · obtain ⟨b, h3, h4⟩ := Option.bind_eq_some_iff.1 h
          cases h4
          exact (((fr_take _ _).trans (fr_take _ _)).trans (I.ex _ _ h3)).trans (fr_want _ _)
        · obtain ⟨b, h3, h4⟩ := Option.bind_eq_some_iff.1 h
          obtain ⟨q, h5, h6⟩ := Option.bind_eq_some_iff.1 h4
          cases h6
          exact ((((fr_take _ _).trans (fr_pNames _ _ _ h3)).trans (fr_want _ _)).trans (I.ex _ _ h5)).trans (fr_want _ _)
      · obtain ⟨b, h3, h4⟩ := Option.bind_eq_some_iff.1 h
        cases h4
        exact (I.li _ _ h3).trans (fr_want _ _)
def okTk (t : Tk) : Prop := (t.k = 0 -> nameB t.t = true) /\ (t.k = 1 -> 0 <= valOf t.t /\ valOf t.t <= 999999999999999) /\ (t.k = 2 -> textB t.t = true) /\ (t.k = 3 -> 0 <= unstamp t.t /\ unstamp t.t <= 3652059)
def okSt (s : St) : Prop := ∀ t ∈ s.1, okTk t
theorem okSt.fr {s s' : St} (h : okSt s) (k : Fr s s') : okSt s' := fun t ht => h t (k.2.subset ht)
theorem okSt.tok {s : St} (h : okSt s) (i : Nat) (hk : 0 <= (tok s i).k) : okTk (tok s i) := by
  unfold Go.Proofs.YtdmepghoffhphaaGreatDoor.tok at *
  by_cases e : i < s.1.length
  · have : s.1.getD i ⟨-1, ByteArray.empty⟩ = s.1[i] := by simp [List.getD, e]
    rw [this]; exact h _ (List.getElem_mem e)
  · have : s.1.getD i ⟨-1, ByteArray.empty⟩ = ⟨-1, ByteArray.empty⟩ := by simp [List.getD, Nat.le_of_not_lt e]
    rw [this] at hk; simp at hk
theorem sgn_mem : ∀ {l : List ByteArray} {s : St} {c : ByteArray} {s' : St}, sgn l s = (some c, s') -> c ∈ l
  | [], s, c, s', h => by simp [sgn] at h
  | a :: r, s, c, s', h => by
    unfold sgn at h
    split at h
    · cases h; simp
    · exact List.mem_cons_of_mem _ (sgn_mem h)
theorem rname_ok {s : St} (h : okSt s) (hf : (rname s).2.2 = false) : nameB (rname s).1 = true := by
  unfold rname at *
  split
  · rename_i e; rw [if_pos e] at hf; simp at hf
  · rename_i e
    simp only [Bool.or_eq_true, not_or, bne_iff_ne, ne_eq, Decidable.not_not] at e
    exact (h.tok 0 (by rw [e.1.2]; exact Int.le_refl _)).1 e.1.2
theorem lNames_ok : ∀ (f : Nat) (l : List ByteArray) (s : St) r, lNames f l s = some r -> okSt s -> l.all nameB = true -> r.2.2 = false -> r.1.all nameB = true
  | 0, l, s, r, h, _, _, _ => by simp [lNames] at h
  | f + 1, l, s, r, h, hs, hl, hf => by
    unfold lNames at h
    split at h
    · have k := fr_lNames _ _ _ _ h
      have o := hs.fr (fr_take sComma s)
      refine lNames_ok f _ _ _ h (o.fr (fr_rname _)) ?_ hf
      rw [List.all_append, hl]
      simp [rname_ok o (k.1 hf)]
    · cases h; exact hl
theorem pNames_ok {f : Nat} {s : St} {r} (h : pNames f s = some r) (hs : okSt s) (hf : r.2.2 = false) : r.1.all nameB = true :=
  lNames_ok _ _ _ _ h (hs.fr (fr_rname _)) (by simp [rname_ok hs ((fr_lNames _ _ _ _ h).1 hf)]) hf
theorem isEx_bin {c : ByteArray} {x y : Ex} (hc : opB c = true) (hx : isEx x = true) (hy : isEx y = true) : isEx (.bin c x y) = true := by simp [Ex.bin, isEx, allEx, hx, hy, opOk, hc]
theorem isEx_not {x : Ex} (hx : isEx x = true) : isEx (.un sNot x) = true := by simp [Ex.un, isEx, allEx, hx, opOk]
theorem isEx_neg {x : Ex} (hx : isEx x = true) : isEx (.un sMinus x) = true := by simp [Ex.un, isEx, allEx, hx, opOk]
theorem isEx_zero : isEx .zero = true := by decide
theorem isEx_nam {s : ByteArray} (h : nameB s = true) : isEx (.nam s) = true := by simp [Ex.nam, isEx, allEx, opOk, h]
theorem norm_op {c : ByteArray} (h : c ∈ cmps) : opB (norm c) = true := by
  simp only [cmps, List.mem_cons, List.mem_nil_iff, or_false] at h
  rcases h with rfl | rfl | rfl | rfl | rfl | rfl | rfl | rfl | rfl | rfl <;> decide
structure SnA (f : Nat) : Prop where
  ex : ∀ s r, pExpr f s = some r -> okSt s -> r.2.2 = false -> isEx r.1 = true
  lor : ∀ x s r, lOr f x s = some r -> okSt s -> isEx x = true -> r.2.2 = false -> isEx r.1 = true
  an : ∀ s r, pAnd f s = some r -> okSt s -> r.2.2 = false -> isEx r.1 = true
  lan : ∀ x s r, lAnd f x s = some r -> okSt s -> isEx x = true -> r.2.2 = false -> isEx r.1 = true
  no : ∀ s r, pNot f s = some r -> okSt s -> r.2.2 = false -> isEx r.1 = true
  su : ∀ s r, pSum f s = some r -> okSt s -> r.2.2 = false -> isEx r.1 = true
  lsu : ∀ x s r, lSum f x s = some r -> okSt s -> isEx x = true -> r.2.2 = false -> isEx r.1 = true
  pr : ∀ s r, pProd f s = some r -> okSt s -> r.2.2 = false -> isEx r.1 = true
  lpr : ∀ x s r, lProd f x s = some r -> okSt s -> isEx x = true -> r.2.2 = false -> isEx r.1 = true
  po : ∀ s r, pPow f s = some r -> okSt s -> r.2.2 = false -> isEx r.1 = true
  un : ∀ s r, pUn f s = some r -> okSt s -> r.2.2 = false -> isEx r.1 = true
  lix : ∀ x s r, lIdx f x s = some r -> okSt s -> isEx x = true -> r.2.2 = false -> isEx r.1 = true
  pm : ∀ s r, pPrim f s = some r -> okSt s -> r.2.2 = false -> isEx r.1 = true
  ma : ∀ s r, pMacro f s = some r -> okSt s -> r.2.2 = false -> isEx r.1 = true
  na : ∀ s r, pNamed f s = some r -> okSt s -> r.2.2 = false -> isEx r.1 = true
  cl : ∀ c s r, pClosed f c s = some r -> okSt s -> r.2.2 = false -> allEx r.1 = true
  li : ∀ s r, pList f s = some r -> okSt s -> r.2.2 = false -> allEx r.1 = true /\ 1 <= r.1.length
  lli : ∀ l s r, lList f l s = some r -> okSt s -> allEx l = true -> r.2.2 = false -> allEx r.1 = true /\ l.length <= r.1.length
  br : ∀ s r, pBraces f s = some r -> okSt s -> r.2.2 = false -> isEx r.1 = true
theorem allEx_append : ∀ (l : List Ex) (x : Ex), allEx (l ++ [x]) = (allEx l && isEx x)
  | [], x => by simp [allEx]
  | a :: r, x => by simp [allEx, allEx_append r x, Bool.and_assoc]
theorem snA : ∀ f, SnA f
  | 0 => ⟨fun s r h => by simp [pExpr] at h, fun x s r h => by simp [lOr] at h, fun s r h => by simp [pAnd] at h, fun x s r h => by simp [lAnd] at h, fun s r h => by simp [pNot] at h, fun s r h => by simp [pSum] at h, fun x s r h => by simp [lSum] at h, fun s r h => by simp [pProd] at h, fun x s r h => by simp [lProd] at h, fun s r h => by simp [pPow] at h, fun s r h => by simp [pUn] at h, fun x s r h => by simp [lIdx] at h, fun s r h => by simp [pPrim] at h, fun s r h => by simp [pMacro] at h, fun s r h => by simp [pNamed] at h, fun c s r h => by simp [pClosed] at h, fun s r h => by simp [pList] at h, fun x s r h => by simp [lList] at h, fun s r h => by simp [pBraces] at h⟩
  | f + 1 => by
    have I := snA f
    have F := frA f
    refine ⟨?_, ?_, ?_, ?_, ?_, ?_, ?_, ?_, ?_, ?_, ?_, ?_, ?_, ?_, ?_, ?_, ?_, ?_, ?_⟩
    · intro s r h hs hf
      obtain ⟨a, h1, h2⟩ := Option.bind_eq_some_iff.1 h
      exact I.lor _ _ _ h2 (hs.fr (F.an _ _ h1)) (I.an _ _ h1 hs ((F.lor _ _ _ h2).1 hf)) hf
    · intro x s r h hs hx hf
      unfold lOr at h
      split at h
      · obtain ⟨a, h1, h2⟩ := Option.bind_eq_some_iff.1 h
        have o := hs.fr (fr_take sOr s)
        exact I.lor _ _ _ h2 (o.fr (F.an _ _ h1)) (isEx_bin (by decide) hx (I.an _ _ h1 o ((F.lor _ _ _ h2).1 hf))) hf
      · cases h; exact hx
    · intro s r h hs hf
      obtain ⟨a, h1, h2⟩ := Option.bind_eq_some_iff.1 h
      exact I.lan _ _ _ h2 (hs.fr (F.no _ _ h1)) (I.no _ _ h1 hs ((F.lan _ _ _ h2).1 hf)) hf
    · intro x s r h hs hx hf
      unfold lAnd at h
      split at h
      · obtain ⟨a, h1, h2⟩ := Option.bind_eq_some_iff.1 h
        have o := hs.fr (fr_take sAnd s)
        exact I.lan _ _ _ h2 (o.fr (F.no _ _ h1)) (isEx_bin (by decide) hx (I.no _ _ h1 o ((F.lan _ _ _ h2).1 hf))) hf
      · cases h; exact hx
    · intro s r h hs hf
      unfold pNot at h
      split at h
      · obtain ⟨a, h1, h2⟩ := Option.bind_eq_some_iff.1 h
        cases h2
        exact isEx_not (I.no _ _ h1 (hs.fr (fr_sgn _ _)) hf)
      · obtain ⟨a, h1, h2⟩ := Option.bind_eq_some_iff.1 h
        have k := fr_sgn cmps a.2
        split at h2
        · rename_i s' e; rw [e] at k
          have q := I.su _ _ h1 hs
          cases h2
          exact q (k.1 hf)
        · rename_i c s' e; rw [e] at k
          obtain ⟨b, h3, h4⟩ := Option.bind_eq_some_iff.1 h2
          cases h4
          have hf2 := k.1 ((F.su _ _ h3).1 hf)
          exact isEx_bin (norm_op (sgn_mem e)) (I.su _ _ h1 hs hf2) (I.su _ _ h3 ((hs.fr (F.su _ _ h1)).fr k) hf)
    · intro s r h hs hf
      obtain ⟨a, h1, h2⟩ := Option.bind_eq_some_iff.1 h
      exact I.lsu _ _ _ h2 (hs.fr (F.pr _ _ h1)) (I.pr _ _ h1 hs ((F.lsu _ _ _ h2).1 hf)) hf
    · intro x s r h hs hx hf
      unfold lSum at h
      have k := fr_sgn [sPlus, sMinus] s
      split at h
      · rename_i s' e; rw [e] at k; cases h; exact hx
      · rename_i c s' e; rw [e] at k
        obtain ⟨b, h3, h4⟩ := Option.bind_eq_some_iff.1 h
        have o := hs.fr k
        refine I.lsu _ _ _ h4 (o.fr (F.pr _ _ h3)) (isEx_bin ?_ hx (I.pr _ _ h3 o ((F.lsu _ _ _ h4).1 hf))) hf
        have m := sgn_mem e
        simp only [List.mem_cons, List.mem_nil_iff, or_false] at m
        rcases m with rfl | rfl <;> decide
    · intro s r h hs hf
      obtain ⟨a, h1, h2⟩ := Option.bind_eq_some_iff.1 h
      exact I.lpr _ _ _ h2 (hs.fr (F.po _ _ h1)) (I.po _ _ h1 hs ((F.lpr _ _ _ h2).1 hf)) hf
    · intro x s r h hs hx hf
      unfold lProd at h
      have k := fr_sgn [sStar, sSlash, sPct] s
      split at h
      · rename_i s' e; rw [e] at k; cases h; exact hx
      · rename_i c s' e; rw [e] at k
        obtain ⟨b, h3, h4⟩ := Option.bind_eq_some_iff.1 h
        have o := hs.fr k
        refine I.lpr _ _ _ h4 (o.fr (F.po _ _ h3)) (isEx_bin ?_ hx (I.po _ _ h3 o ((F.lpr _ _ _ h4).1 hf))) hf
        have m := sgn_mem e
        simp only [List.mem_cons, List.mem_nil_iff, or_false] at m
        rcases m with rfl | rfl | rfl <;> decide
    · intro s r h hs hf
      obtain ⟨a, h1, h2⟩ := Option.bind_eq_some_iff.1 h
      split at h2
      · obtain ⟨b, h3, h4⟩ := Option.bind_eq_some_iff.1 h2
        cases h4
        have k := fr_take sHat a.2
        exact isEx_bin (by decide) (I.un _ _ h1 hs (k.1 ((F.po _ _ h3).1 hf))) (I.po _ _ h3 ((hs.fr (F.un _ _ h1)).fr k) hf)
      · cases h2; exact I.un _ _ h1 hs hf
    · intro s r h hs hf
      unfold pUn at h
      split at h
      · obtain ⟨b, h3, h4⟩ := Option.bind_eq_some_iff.1 h
        cases h4
        exact isEx_neg (I.un _ _ h3 (hs.fr (fr_take _ _)) hf)
      · obtain ⟨b, h3, h4⟩ := Option.bind_eq_some_iff.1 h
        exact I.lix _ _ _ h4 (hs.fr (F.pm _ _ h3)) (I.pm _ _ h3 hs ((F.lix _ _ _ h4).1 hf)) hf
    · intro x s r h hs hx hf
      unfold lIdx at h
      split at h
      · obtain ⟨b, h3, h4⟩ := Option.bind_eq_some_iff.1 h
        have o := hs.fr (fr_take sLb s)
        have hf2 := (fr_want _ _).1 ((F.lix _ _ _ h4).1 hf)
        refine I.lix _ _ _ h4 ((o.fr (F.ex _ _ h3)).fr (fr_want _ _)) ?_ hf
        simp [isEx, allEx, opOk, hx, I.ex _ _ h3 o hf2]
      · cases h; exact hx
    · intro s r h hs hf
      unfold pPrim at h
      have k := fr_sgn prims s
      split at h
      · cases h; exact isEx_zero
      split at h
      · rename_i e
        cases h
        have := (hs.tok 0 (by rw [e]; decide)).2.1 e
        simp [Ex.cst, isEx, allEx, opOk, constB]; omega
      split at h
      · rename_i e
        cases h
        simp only [Bool.and_eq_true, decide_eq_true_eq] at e
        have := (hs.tok 0 (by rw [e.1]; decide)).2.2.1 e.1
        simp [Ex.cst, isEx, allEx, opOk, constB, this, e.2]
      split at h
      · rename_i e
        cases h
        have := (hs.tok 0 (by rw [e]; decide)).2.2.2 e
        simp [Ex.cst, isEx, allEx, opOk, constB]; omega
      split at h
      · exact I.na _ _ h hs hf
      split at h
      · exact I.ma _ _ h hs hf
      split at h
      · rename_i s' e; rw [e] at k; cases h; exact isEx_zero
      · rename_i c s' e; rw [e] at k
        have o := hs.fr k
        split at h
        · cases h; exact (by decide : isEx (.cst ⟨1, 1, ByteArray.empty⟩) = true)
        split at h
        · cases h; exact (by decide : isEx (.cst ⟨1, 0, ByteArray.empty⟩) = true)
        split at h
        · cases h; exact isEx_zero
        split at h
        · obtain ⟨b, h3, h4⟩ := Option.bind_eq_some_iff.1 h
          have q := I.ex _ _ h3 o
          cases h4
          exact q ((fr_want sRp b.2).1 hf)
        split at h
        · exact I.br _ _ h o hf
        · cases h
          have := rname_ok o hf
          simp [isEx, allEx, opOk, this]
    · intro s r h hs hf
      unfold pMacro at h
      have o := hs.fr (fr_want sAmp s)
      split at h
      · obtain ⟨b, h3, h4⟩ := Option.bind_eq_some_iff.1 h
        cases h4
        have := I.ex _ _ h3 (o.fr (fr_take sLp _)) ((fr_want sRp b.2).1 hf)
        simp [isEx, allEx, opOk, this]
      · cases h
        have := rname_ok o ((fr_take sDot _).1 hf)
        simp [isEx, allEx, opOk, this]
    · intro s r h hs hf
      unfold pNamed at h
      have o := hs.fr (fr_rname s)
      split at h
      · obtain ⟨b, h3, h4⟩ := Option.bind_eq_some_iff.1 h
        cases h4
        have n := rname_ok hs ((fr_want sLp _).1 ((F.cl _ _ _ h3).1 hf))
        have := I.cl _ _ _ h3 (o.fr (fr_want sLp _)) hf
        simp [isEx, opOk, this, n]
      split at h
      · have o2 := (o.fr (fr_take sArrow _)).fr (fr_take sLp _)
        split at h
        · obtain ⟨b, h3, h4⟩ := Option.bind_eq_some_iff.1 h
          cases h4
          have hf2 := (F.ex _ _ h3).1 ((fr_want sRp b.2).1 hf)
          have n := rname_ok hs ((fr_take sArrow _).1 ((fr_take sLp _).1 hf2))
          have := I.ex _ _ h3 o2 ((fr_want sRp b.2).1 hf)
          simp [isEx, allEx, opOk, this, n]
        · cases h
          have hf2 := (fr_rname (take sLp (take sArrow (rname s).2).2).2).1 hf
          have n := rname_ok hs ((fr_take sArrow _).1 ((fr_take sLp _).1 hf2))
          have := isEx_nam (rname_ok o2 hf)
          simp [isEx, allEx, opOk, this, n]
      · cases h
        exact isEx_nam (rname_ok hs ((fr_take sArrow _).1 hf))
    · intro c s r h hs hf
      unfold pClosed at h
      split at h
      · cases h; simp [allEx]
      · obtain ⟨b, h3, h4⟩ := Option.bind_eq_some_iff.1 h
        cases h4
        exact (I.li _ _ h3 hs ((fr_want c b.2).1 hf)).1
    · intro s r h hs hf
      obtain ⟨a, h1, h2⟩ := Option.bind_eq_some_iff.1 h
      exact I.lli _ _ _ h2 (hs.fr (F.ex _ _ h1)) (by simp [allEx, I.ex _ _ h1 hs ((F.lli _ _ _ h2).1 hf)]) hf
    · intro l s r h hs hl hf
      unfold lList at h
      split at h
      · obtain ⟨b, h3, h4⟩ := Option.bind_eq_some_iff.1 h
        have o := hs.fr (fr_take sComma s)
        have := I.lli _ _ _ h4 (o.fr (F.ex _ _ h3)) (by rw [allEx_append, hl, I.ex _ _ h3 o ((F.lli _ _ _ h4).1 hf)]; rfl) hf
        exact ⟨this.1, by have := this.2; simp at this; omega⟩
      · cases h; exact ⟨hl, Nat.le_refl _⟩
    · intro s r h hs hf
      unfold pBraces at h
      split at h
      · have o := hs.fr (fr_take sBar s)
        split at h
        · obtain ⟨b, h3, h4⟩ := Option.bind_eq_some_iff.1 h
          cases h4
          have := I.ex _ _ h3 (o.fr (fr_take sBar _)) ((fr_want sRc b.2).1 hf)
          simp [isEx, allEx, opOk, this]
        · obtain ⟨b, h3, h4⟩ := Option.bind_eq_some_iff.1 h
          obtain ⟨q, h5, h6⟩ := Option.bind_eq_some_iff.1 h4
          cases h6
          have hf2 := (fr_want sRc q.2).1 hf
          have hf3 := (fr_want sBar b.2).1 ((F.ex _ _ h5).1 hf2)
          have n := pNames_ok h3 o hf3
          have := I.ex _ _ h5 ((o.fr (fr_pNames _ _ _ h3)).fr (fr_want sBar _)) hf2
          simp only [isEx, allEx, opOk, this]
          simpa using n
      · obtain ⟨b, h3, h4⟩ := Option.bind_eq_some_iff.1 h
        cases h4
        have := I.li _ _ h3 hs ((fr_want sRc b.2).1 hf)
        simp [isEx, opOk, this.1, this.2]
def ms (s : St) : Nat := if s.2 then 0 else s.1.length
theorem ms_fr {s s' : St} (h : Fr s s') : ms s' <= ms s := by
  unfold ms
  split
  · omega
  · rename_i e
    have e' : s'.2 = false := by simpa using e
    rw [h.1 e']
    simpa using h.2.length_le
theorem ms_take {c : ByteArray} {s : St} (h : (take c s).1 = true) : ms (take c s).2 + 1 <= ms s := by
  unfold take at *
  split at h
  · simp at h
  · rename_i e
    rw [if_neg e]
    simp only [Bool.or_eq_true, not_or, Bool.not_eq_true', Bool.not_eq_true] at e
    have e2 : isSg s 0 c = true := by simpa using e.2
    simp only [isSg, Bool.and_eq_true, decide_eq_true_eq] at e2
    have : s.1 ≠ [] := by
      intro hn
      have := e2.1
      simp [tok, hn] at this
    unfold ms
    simp only [e.1]
    have := List.length_pos_iff.2 this
    simp only [List.length_drop]
    simp; omega
theorem ms_want (c : ByteArray) (s : St) : ms (want c s) <= ms s - 1 := by
  unfold want
  split
  · rename_i e; have := ms_take e; omega
  · simp [ms]
theorem ms_rname (s : St) : ms (rname s).2 <= ms s - 1 := by
  unfold rname
  split
  · simp [ms]
  · rename_i e
    simp only [Bool.or_eq_true, not_or, bne_iff_ne, ne_eq, Decidable.not_not, decide_eq_true_eq] at e
    have e0 : s.2 = false := by simpa using e.1.1
    simp [ms, e0]
theorem ms_sgn : ∀ {l : List ByteArray} {s : St} {c : ByteArray} {s' : St}, sgn l s = (some c, s') -> ms s' + 1 <= ms s
  | [], s, c, s', h => by simp [sgn] at h
  | a :: r, s, c, s', h => by
    unfold sgn at h
    split at h
    · rename_i e; cases h; exact ms_take e
    · exact ms_sgn h
theorem to_lNames : ∀ (f : Nat) (l : List ByteArray) (s : St), ms s + 1 <= f -> ∃ r, lNames f l s = some r
  | 0, l, s, h => by omega
  | f + 1, l, s, h => by
    unfold lNames
    split
    · rename_i e
      have := ms_take e
      have := ms_rname (take sComma s).2
      exact to_lNames f _ _ (by omega)
    · exact ⟨_, rfl⟩
theorem to_pNames (f : Nat) (s : St) (h : ms s + 1 <= f) : ∃ r, pNames f s = some r := to_lNames _ _ _ (by have := ms_rname s; omega)
structure ToA (f : Nat) : Prop where
  ex : ∀ s, 20 * ms s + 12 <= f -> ∃ r, pExpr f s = some r
  lor : ∀ x s, 20 * ms s + 1 <= f -> ∃ r, lOr f x s = some r
  an : ∀ s, 20 * ms s + 11 <= f -> ∃ r, pAnd f s = some r
  lan : ∀ x s, 20 * ms s + 1 <= f -> ∃ r, lAnd f x s = some r
  no : ∀ s, 20 * ms s + 10 <= f -> ∃ r, pNot f s = some r
  su : ∀ s, 20 * ms s + 9 <= f -> ∃ r, pSum f s = some r
  lsu : ∀ x s, 20 * ms s + 1 <= f -> ∃ r, lSum f x s = some r
  pr : ∀ s, 20 * ms s + 8 <= f -> ∃ r, pProd f s = some r
  lpr : ∀ x s, 20 * ms s + 1 <= f -> ∃ r, lProd f x s = some r
  po : ∀ s, 20 * ms s + 7 <= f -> ∃ r, pPow f s = some r
  un : ∀ s, 20 * ms s + 6 <= f -> ∃ r, pUn f s = some r
  lix : ∀ x s, 20 * ms s + 1 <= f -> ∃ r, lIdx f x s = some r
  pm : ∀ s, 20 * ms s + 5 <= f -> ∃ r, pPrim f s = some r
  ma : ∀ s, 20 * ms s + 4 <= f -> ∃ r, pMacro f s = some r
  na : ∀ s, 20 * ms s + 4 <= f -> 1 <= ms s -> ∃ r, pNamed f s = some r
  cl : ∀ c s, 20 * ms s + 15 <= f -> ∃ r, pClosed f c s = some r
  li : ∀ s, 20 * ms s + 14 <= f -> ∃ r, pList f s = some r
  lli : ∀ l s, 20 * ms s + 1 <= f -> ∃ r, lList f l s = some r
  br : ∀ s, 20 * ms s + 16 <= f -> ∃ r, pBraces f s = some r
theorem bind_ex {α β : Type} {o : Option α} {g : α -> Option β} (h : ∃ a, o = some a) (k : ∀ a, o = some a -> ∃ r, g a = some r) : ∃ r, o.bind g = some r := by
  obtain ⟨a, e⟩ := h
  obtain ⟨r, e2⟩ := k a e
  exact ⟨r, by rw [e]; exact e2⟩
theorem toA : ∀ f, ToA f
  | 0 => by constructor <;> intros <;> omega
  | f + 1 => by
    have I := toA f
    have F := frA f
    refine ⟨?_, ?_, ?_, ?_, ?_, ?_, ?_, ?_, ?_, ?_, ?_, ?_, ?_, ?_, ?_, ?_, ?_, ?_, ?_⟩
    · intro s h
      exact bind_ex (I.an _ (by omega)) fun a e => I.lor _ _ (by have := ms_fr (F.an _ _ e); omega)
    · intro x s h
      unfold lOr
      split
      · rename_i e
        have := ms_take e
        exact bind_ex (I.an _ (by omega)) fun a e => I.lor _ _ (by have := ms_fr (F.an _ _ e); omega)
      · exact ⟨_, rfl⟩
    · intro s h
      exact bind_ex (I.no _ (by omega)) fun a e => I.lan _ _ (by have := ms_fr (F.no _ _ e); omega)
    · intro x s h
      unfold lAnd
      split
      · rename_i e
        have := ms_take e
        exact bind_ex (I.no _ (by omega)) fun a e => I.lan _ _ (by have := ms_fr (F.no _ _ e); omega)
      · exact ⟨_, rfl⟩
    · intro s h
      unfold pNot
      split
      · rename_i e
        rcases hs : sgn [sNot, sBang] s with ⟨o, s'⟩
        rw [hs] at e
        cases o with
        | none => simp at e
        | some c => have := ms_sgn hs; exact bind_ex (I.no _ (by simp only; omega)) fun a e => ⟨_, rfl⟩
      · refine bind_ex (I.su _ (by omega)) fun a e => ?_
        have := ms_fr (F.su _ _ e)
        split
        · exact ⟨_, rfl⟩
        · rename_i c s' hs
          have := ms_sgn hs
          exact bind_ex (I.su _ (by omega)) fun a e => ⟨_, rfl⟩
    · intro s h
      exact bind_ex (I.pr _ (by omega)) fun a e => I.lsu _ _ (by have := ms_fr (F.pr _ _ e); omega)
    · intro x s h
      unfold lSum
      split
      · exact ⟨_, rfl⟩
      · rename_i c s' hs
        have := ms_sgn hs
        exact bind_ex (I.pr _ (by omega)) fun a e => I.lsu _ _ (by have := ms_fr (F.pr _ _ e); omega)
    · intro s h
      exact bind_ex (I.po _ (by omega)) fun a e => I.lpr _ _ (by have := ms_fr (F.po _ _ e); omega)
    · intro x s h
      unfold lProd
      split
      · exact ⟨_, rfl⟩
      · rename_i c s' hs
        have := ms_sgn hs
        exact bind_ex (I.po _ (by omega)) fun a e => I.lpr _ _ (by have := ms_fr (F.po _ _ e); omega)
    · intro s h
      refine bind_ex (I.un _ (by omega)) fun a e => ?_
      have := ms_fr (F.un _ _ e)
      split
      · rename_i e
        have := ms_take e
        exact bind_ex (I.po _ (by omega)) fun a e => ⟨_, rfl⟩
      · exact ⟨_, rfl⟩
    · intro s h
      unfold pUn
      split
      · rename_i e
        have := ms_take e
        exact bind_ex (I.un _ (by omega)) fun a e => ⟨_, rfl⟩
      · exact bind_ex (I.pm _ (by omega)) fun a e => I.lix _ _ (by have := ms_fr (F.pm _ _ e); omega)
    · intro x s h
      unfold lIdx
      split
      · rename_i e
        have := ms_take e
        exact bind_ex (I.ex _ (by omega)) fun a e => I.lix _ _ (by have := ms_fr (F.ex _ _ e); have := ms_want sRb a.2; omega)
      · exact ⟨_, rfl⟩
    · intro s h
      unfold pPrim
      by_cases hf : s.2 = true
      · exact ⟨_, if_pos hf⟩
      have hf0 : s.2 = false := by simpa using hf
      by_cases k1 : (tok s 0).k = 1
      · exact ⟨_, (if_neg hf).trans (if_pos k1)⟩
      by_cases k2 : ((tok s 0).k = 2 && decide ((tok s 0).t.size <= 2048)) = true
      · exact ⟨_, (if_neg hf).trans ((if_neg k1).trans (if_pos k2))⟩
      by_cases k3 : (tok s 0).k = 3
      · exact ⟨_, (if_neg hf).trans ((if_neg k1).trans ((if_neg k2).trans (if_pos k3)))⟩
      by_cases k0 : (tok s 0).k = 0
      · obtain ⟨r, hr⟩ := I.na s (by omega) (by
          have : s.1 ≠ [] := by
            intro hn
            simp [tok, hn] at k0
          have := List.length_pos_iff.2 this
          simp [ms, hf0]; omega)
        exact ⟨_, (if_neg hf).trans ((if_neg k1).trans ((if_neg k2).trans ((if_neg k3).trans ((if_pos k0).trans hr))))⟩
      by_cases k4 : isSg s 0 sAmp = true
      · obtain ⟨r, hr⟩ := I.ma s (by omega)
        exact ⟨_, (if_neg hf).trans ((if_neg k1).trans ((if_neg k2).trans ((if_neg k3).trans ((if_neg k0).trans ((if_pos k4).trans hr)))))⟩
      suffices hh : ∃ r, (match sgn prims s with
        | (none, s') => some (Ex.zero, (s'.1, true))
        | (some c, s') =>
          if c = sTrue then some (.cst ⟨1, 1, ByteArray.empty⟩, s')
          else if c = sFalse then some (.cst ⟨1, 0, ByteArray.empty⟩, s')
          else if c = sNull then some (.zero, s')
          else if c = sLp then (pExpr f s').bind fun r => some (r.1, want sRp r.2)
          else if c = sLc then pBraces f s'
          else some (.mk 10 (rname s').1 vd0 [] [], (rname s').2)) = some r by
        obtain ⟨r, hr⟩ := hh
        exact ⟨_, (if_neg hf).trans ((if_neg k1).trans ((if_neg k2).trans ((if_neg k3).trans ((if_neg k0).trans ((if_neg k4).trans hr)))))⟩
      rcases hs : sgn prims s with ⟨o, s'⟩
      cases o with
      | none => exact ⟨_, rfl⟩
      | some c =>
        have := ms_sgn hs
        by_cases c1 : c = sTrue
        · exact ⟨_, if_pos c1⟩
        by_cases c2 : c = sFalse
        · exact ⟨_, (if_neg c1).trans (if_pos c2)⟩
        by_cases c3 : c = sNull
        · exact ⟨_, (if_neg c1).trans ((if_neg c2).trans (if_pos c3))⟩
        by_cases c4 : c = sLp
        · obtain ⟨r, hr⟩ := I.ex s' (by omega)
          exact ⟨_, (if_neg c1).trans ((if_neg c2).trans ((if_neg c3).trans ((if_pos c4).trans (by rw [hr]; rfl))))⟩
        by_cases c5 : c = sLc
        · obtain ⟨r, hr⟩ := I.br s' (by omega)
          exact ⟨_, (if_neg c1).trans ((if_neg c2).trans ((if_neg c3).trans ((if_neg c4).trans ((if_pos c5).trans hr))))⟩
        · exact ⟨_, (if_neg c1).trans ((if_neg c2).trans ((if_neg c3).trans ((if_neg c4).trans (if_neg c5))))⟩
    · intro s h
      unfold pMacro
      have := ms_want sAmp s
      split
      · rename_i e
        have := ms_take e
        exact bind_ex (I.ex _ (by omega)) fun a e => ⟨_, rfl⟩
      · exact ⟨_, rfl⟩
    · intro s h h1
      unfold pNamed
      have := ms_rname s
      split
      · have := ms_want sLp (rname s).2
        exact bind_ex (I.cl _ _ (by omega)) fun a e => ⟨_, rfl⟩
      split
      · rename_i e
        have := ms_take e
        split
        · rename_i e
          have := ms_take e
          exact bind_ex (I.ex _ (by omega)) fun a e => ⟨_, rfl⟩
        · exact ⟨_, rfl⟩
      · exact ⟨_, rfl⟩
    · intro c s h
      unfold pClosed
      split
      · exact ⟨_, rfl⟩
      · exact bind_ex (I.li _ (by omega)) fun a e => ⟨_, rfl⟩
    · intro s h
      exact bind_ex (I.ex _ (by omega)) fun a e => I.lli _ _ (by have := ms_fr (F.ex _ _ e); omega)
    · intro l s h
      unfold lList
      split
      · rename_i e
        have := ms_take e
        exact bind_ex (I.ex _ (by omega)) fun a e => I.lli _ _ (by have := ms_fr (F.ex _ _ e); omega)
      · exact ⟨_, rfl⟩
    · intro s h
      unfold pBraces
      split
      · rename_i e
        have := ms_take e
        split
        · rename_i e
          have := ms_take e
          exact bind_ex (I.ex _ (by omega)) fun a e => ⟨_, rfl⟩
        · refine bind_ex (to_pNames _ _ (by omega)) fun a e => ?_
          have := ms_fr (fr_pNames _ _ _ e)
          have := ms_want sBar a.2
          exact bind_ex (I.ex _ (by omega)) fun a e => ⟨_, rfl⟩
      · exact bind_ex (I.li _ (by omega)) fun a e => ⟨_, rfl⟩
def wrN (n : Nat) : List UInt8 := if n < 10 then [UInt8.ofNat (48 + n)] else wrN (n / 10) ++ [UInt8.ofNat (48 + n % 10)]
termination_by n
def wrI (n : Int) : List UInt8 := if n < 0 then 45 :: wrN n.natAbs else wrN n.toNat
def bytesOf (l : List UInt8) : ByteArray := ⟨l.toArray⟩
def fy (y : Int) : Int := 365 * (y - 1) + (y - 1).tdiv 4 - (y - 1).tdiv 100 + (y - 1).tdiv 400 + 1
def srch : Nat -> Int -> Int -> Int -> Int
  | 0, _, lo, _ => lo
  | f + 1, day, lo, hi => if lo < hi then (if fy ((lo + hi + 1).tdiv 2) <= day then srch f day ((lo + hi + 1).tdiv 2) hi else srch f day lo ((lo + hi + 1).tdiv 2 - 1)) else lo
def yearOf (day : Int) : Int := srch 9999 day 1 9999
def monF : Nat -> Int -> Int -> Nat
  | 0, _, _ => 0
  | m + 1, y, day => if fy y + mdays y m <= day then m + 1 else monF m y day
def monOf (day : Int) : Nat := monF 12 (yearOf day) day
def domOf (day : Int) : Int := day - (fy (yearOf day) + mdays (yearOf day) (monOf day - 1)) + 1
def padN (k : Nat) (l : List UInt8) : List UInt8 := List.replicate (k - l.length) 48 ++ l
def stampL (day : Int) : List UInt8 := padN 4 (wrI (yearOf day)) ++ (padN 2 (wrI (monOf day : Int)) ++ padN 2 (wrI (domOf day)))
def cstTk (v : Vl) : List Tk :=
  if errV v ≠ 0 then []
  else if v.k = 0 then [S sNull]
  else if v.k = 1 then [S (if v.n = 0 then sFalse else sTrue)]
  else if v.k = 2 then [⟨1, bytesOf (wrI v.n)⟩]
  else if v.k = 3 then [⟨3, if v.n = 0 then ByteArray.empty else bytesOf (stampL v.n)⟩]
  else [⟨2, v.s⟩]
def opd (x : Ex) (t : List Tk) : List Tk := if x.op = 4 || x.op = 5 then S sLp :: (t ++ [S sRp]) else t
def nmTks : List ByteArray -> List Tk
  | [] => []
  | [a] => [W a]
  | a :: r => W a :: S sComma :: nmTks r
mutual
def bad : Ex -> Bool
  | .mk op s v p l =>
    if op = 0 then !constB v
    else if op = 1 || op = 10 then !nameB s
    else if op = 2 then (match l with | [a] => !nameB s || (if a.op = 1 then !nameB a.s else bad a) | _ => true)
    else if op = 3 then !nameB s || badL l
    else if op = 4 then (match l with | [a] => bad a | _ => true)
    else if op = 5 || op = 6 then (match l with | [a, b] => bad a || bad b | _ => true)
    else if op = 7 then badL l
    else if op = 8 then (match l with | [a] => !p.all nameB || bad a | _ => true)
    else if op = 9 then (match l with | [a] => bad a | _ => !nameB s)
    else true
def badL : List Ex -> Bool
  | [] => false
  | x :: r => bad x || badL r
end
mutual
def tks : Ex -> List Tk
  | .mk op s v p l =>
    if op = 0 then cstTk v
    else if op = 1 then [W s]
    else if op = 2 then (match l with | [a] => W s :: S sArrow :: (if a.op = 1 then [W a.s] else S sLp :: (tks a ++ [S sRp])) | _ => [])
    else if op = 3 then W s :: S sLp :: (tksL l ++ [S sRp])
    else if op = 4 then (match l with | [a] => S s :: opd a (tks a) | _ => [])
    else if op = 5 then (match l with | [a, b] => opd a (tks a) ++ S s :: opd b (tks b) | _ => [])
    else if op = 6 then (match l with | [a, b] => opd a (tks a) ++ S sLb :: (tks b ++ [S sRb]) | _ => [])
    else if op = 7 then S sLc :: (tksL l ++ [S sRc])
    else if op = 8 then (match l with | [a] => S sLc :: S sBar :: (nmTks p ++ S sBar :: (tks a ++ [S sRc])) | _ => [])
    else if op = 9 then (match l with | [a] => S sAmp :: S sLp :: (tks a ++ [S sRp]) | _ => [S sAmp, W s, S sDot])
    else if op = 10 then [S sAt, W s]
    else []
def tksL : List Ex -> List Tk
  | [] => []
  | x :: r => tks x ++ (match r with | [] => [] | _ :: _ => S sComma :: tksL r)
end
theorem wrN_all : ∀ n, (wrN n).all digB = true /\ wrN n ≠ [] := by
  intro n
  induction n using Nat.strongRecOn with
  | ind n ih =>
    unfold wrN
    split
    · rename_i h
      refine ⟨?_, by simp⟩
      have : n = 0 \/ n = 1 \/ n = 2 \/ n = 3 \/ n = 4 \/ n = 5 \/ n = 6 \/ n = 7 \/ n = 8 \/ n = 9 := by omega
      rcases this with rfl | rfl | rfl | rfl | rfl | rfl | rfl | rfl | rfl | rfl <;> decide
    · rename_i h
      refine ⟨?_, by simp⟩
      rw [List.all_append, (ih (n / 10) (by omega)).1]
      have : n % 10 = 0 \/ n % 10 = 1 \/ n % 10 = 2 \/ n % 10 = 3 \/ n % 10 = 4 \/ n % 10 = 5 \/ n % 10 = 6 \/ n % 10 = 7 \/ n % 10 = 8 \/ n % 10 = 9 := by omega
      rcases this with h | h | h | h | h | h | h | h | h | h <;> rw [h] <;> decide
theorem wrN_len : ∀ k n, n < 10 ^ (k + 1) -> (wrN n).length <= k + 1
  | 0, n, h => by unfold wrN; rw [if_pos (by omega)]; simp
  | k + 1, n, h => by
    unfold wrN
    split
    · simp
    · have := wrN_len k (n / 10) (by rw [Nat.pow_succ] at h; omega)
      simp; omega
theorem wrN_len_ge : ∀ k n, 10 ^ k <= n -> k + 1 <= (wrN n).length
  | 0, n, h => by
    have := List.length_pos_iff.2 (wrN_all n).2; omega
  | k + 1, n, h => by
    have h10 : 10 <= n := by have : 1 <= 10 ^ k := Nat.one_le_pow _ _ (by omega); rw [Nat.pow_succ] at h; omega
    unfold wrN
    rw [if_neg (by omega)]
    have := wrN_len_ge k (n / 10) (by rw [Nat.pow_succ] at h; omega)
    simp; omega
theorem digs_append : ∀ (l r : List UInt8) (a : Int), l.all digB = true -> digs (l ++ r) a = digs r (digs l a)
  | [], r, a, _ => rfl
  | c :: l, r, a, h => by
    simp only [List.all_cons, Bool.and_eq_true] at h
    simp only [List.cons_append, digs, h.1, if_true]
    exact digs_append l r _ h.2
theorem digs_one (n : Nat) (h : n < 10) (a : Int) : digs [UInt8.ofNat (48 + n)] a = min (10 * a + n) 1000000000000000 := by
  have hd : digB (UInt8.ofNat (48 + n)) = true /\ ((UInt8.ofNat (48 + n)).toNat : Int) = 48 + n := by
    have : n = 0 \/ n = 1 \/ n = 2 \/ n = 3 \/ n = 4 \/ n = 5 \/ n = 6 \/ n = 7 \/ n = 8 \/ n = 9 := by omega
    rcases this with rfl | rfl | rfl | rfl | rfl | rfl | rfl | rfl | rfl | rfl <;> decide
  simp only [digs, hd.1, if_true, hd.2]
  congr 1; omega
theorem digs_wrN : ∀ n : Nat, digs (wrN n) 0 = min (n : Int) 1000000000000000 := by
  intro n
  induction n using Nat.strongRecOn with
  | ind n ih =>
    unfold wrN
    split
    · rename_i h
      rw [digs_one n h]; congr 1; omega
    · rename_i h
      rw [digs_append _ _ _ (wrN_all _).1, ih _ (by omega), digs_one _ (Nat.mod_lt _ (by omega))]
      omega
theorem digs_zeros : ∀ (k : Nat) (r : List UInt8), digs (List.replicate k 48 ++ r) 0 = digs r 0
  | 0, r => by simp
  | k + 1, r => by
    have e : digB 48 = true := by decide
    have e2 : ((48 : UInt8).toNat : Int) = 48 := by decide
    have e3 : min (10 * (0 : Int) + (48 - 48)) 1000000000000000 = 0 := by decide
    simp only [List.replicate_succ, List.cons_append, digs, e, if_true, e2, e3]
    exact digs_zeros k r
theorem valOf_digits {l : List UInt8} (h : l.all digB = true) : valOf (bytesOf l) = digs l 0 := by
  unfold valOf bytesOf
  cases l with
  | nil => rfl
  | cons c r =>
    simp only [List.all_cons, Bool.and_eq_true] at h
    have h1 := h.1
    have e1 : (c == 32) = false := by
      cases hc : c == 32
      · rfl
      · have : c = 32 := by simpa using hc
        subst this; exact absurd h1 (by decide)
    have e2 : c ≠ 45 := by rintro rfl; exact absurd h1 (by decide)
    have e3 : c ≠ 43 := by rintro rfl; exact absurd h1 (by decide)
    simp only [List.dropWhile_cons, e1, if_false, Bool.false_eq_true]
    split
    · rename_i heq; cases heq; exact absurd rfl e2
    · rename_i heq; cases heq; exact absurd rfl e3
    · rfl
theorem pad_all {k : Nat} {l : List UInt8} (h : l.all digB = true) : (padN k l).all digB = true := by
  unfold padN
  rw [List.all_append, h]
  simp; exact .inr (by decide)
theorem pad_len {k : Nat} {l : List UInt8} (h : l.length <= k) : (padN k l).length = k := by
  unfold padN; simp; omega
theorem val_pad (k n : Nat) (h : n <= 1000000000000000) : valOf (bytesOf (padN k (wrN n))) = n := by
  rw [valOf_digits (pad_all (wrN_all n).1)]
  unfold padN
  rw [digs_zeros, digs_wrN]; omega
theorem val_wr (n : Nat) (h : n <= 1000000000000000) : valOf (bytesOf (wrN n)) = n := by
  rw [valOf_digits (wrN_all n).1, digs_wrN]; omega
def stop (r : List Tk) : Prop := r = [] \/ ∃ q, r = S sRp :: q \/ r = S sRb :: q \/ r = S sRc :: q \/ r = S sComma :: q
def noNot (t : List Tk) : Prop := ∃ a q, t = a :: q /\ a ≠ S sNot /\ a ≠ S sBang
theorem isSg_cons (t : Tk) (r : List Tk) (b : Bool) (c : ByteArray) : isSg (t :: r, b) 0 c = decide (t = S c) := by
  obtain ⟨k, s⟩ := t
  simp only [isSg, tok, List.getD_cons_zero, S]
  by_cases h1 : k = 4 <;> by_cases h2 : s = c <;> simp [h1, h2, Tk.mk.injEq]
theorem take_cons (t : Tk) (r : List Tk) (c : ByteArray) : take c (t :: r, false) = if t = S c then (true, (r, false)) else (false, (t :: r, false)) := by
  unfold take
  rw [isSg_cons]
  by_cases h : t = S c <;> simp [h]
theorem tok_S (c : ByteArray) (r : List Tk) (b : Bool) : tok (S c :: r, b) 0 = S c := rfl
theorem Sk (c : ByteArray) : (S c).k = 4 := rfl
theorem take_nil (c : ByteArray) : take c ([], false) = (false, ([], false)) := by simp [take, isSg, tok]
theorem take_same (c : ByteArray) (r : List Tk) : take c (S c :: r, false) = (true, (r, false)) := by rw [take_cons, if_pos rfl]
theorem take_ne {t : Tk} {c : ByteArray} (r : List Tk) (h : t ≠ S c) : take c (t :: r, false) = (false, (t :: r, false)) := by rw [take_cons, if_neg h]
theorem want_same (c : ByteArray) (r : List Tk) : want c (S c :: r, false) = (r, false) := by simp [want, take_same]
theorem sgn_none : ∀ {l : List ByteArray} {t : Tk} {r : List Tk}, (∀ c ∈ l, t ≠ S c) -> sgn l (t :: r, false) = (none, (t :: r, false))
  | [], t, r, h => rfl
  | c :: l, t, r, h => by
    unfold sgn
    rw [take_ne r (h c (by simp))]
    exact sgn_none fun x hx => h x (by simp [hx])
theorem sgn_nil : ∀ (l : List ByteArray), sgn l ([], false) = (none, ([], false))
  | [] => rfl
  | c :: l => by unfold sgn; rw [take_nil]; exact sgn_nil l
theorem S_inj {a b : ByteArray} (h : S a = S b) : a = b := by simpa [S] using h
theorem sgn_same : ∀ {l : List ByteArray} {c : ByteArray} {r : List Tk}, c ∈ l -> sgn l (S c :: r, false) = (some c, (r, false))
  | a :: l, c, r, h => by
    unfold sgn
    by_cases e : a = c
    · subst e; rw [take_same]; rfl
    · have hne : S c ≠ S a := fun k => e (S_inj k).symm
      rw [take_ne r hne]
      exact sgn_same ((List.mem_cons.1 h).resolve_left fun k => e k.symm)
theorem stop_take {r : List Tk} (h : stop r) {c : ByteArray} (h1 : sRp ≠ c) (h2 : sRb ≠ c) (h3 : sRc ≠ c) (h4 : sComma ≠ c) : take c (r, false) = (false, (r, false)) := by
  rcases h with rfl | ⟨q, rfl | rfl | rfl | rfl⟩
  · exact take_nil c
  · exact take_ne _ fun k => h1 (S_inj k)
  · exact take_ne _ fun k => h2 (S_inj k)
  · exact take_ne _ fun k => h3 (S_inj k)
  · exact take_ne _ fun k => h4 (S_inj k)
theorem stop_sgn {r : List Tk} (h : stop r) {l : List ByteArray} (h1 : ∀ c ∈ l, sRp ≠ c /\ sRb ≠ c /\ sRc ≠ c /\ sComma ≠ c) : sgn l (r, false) = (none, (r, false)) := by
  rcases h with rfl | ⟨q, rfl | rfl | rfl | rfl⟩
  · exact sgn_nil l
  · exact sgn_none fun c hc k => (h1 c hc).1 (S_inj k)
  · exact sgn_none fun c hc k => (h1 c hc).2.1 (S_inj k)
  · exact sgn_none fun c hc k => (h1 c hc).2.2.1 (S_inj k)
  · exact sgn_none fun c hc k => (h1 c hc).2.2.2 (S_inj k)
theorem stop_nil : stop [] := .inl rfl
theorem stop_rp (q) : stop (S sRp :: q) := .inr ⟨q, .inl rfl⟩
theorem stop_rb (q) : stop (S sRb :: q) := .inr ⟨q, .inr (.inl rfl)⟩
theorem stop_rc (q) : stop (S sRc :: q) := .inr ⟨q, .inr (.inr (.inl rfl))⟩
theorem stop_comma (q) : stop (S sComma :: q) := .inr ⟨q, .inr (.inr (.inr rfl))⟩
theorem up_pow {f : Nat} {s s' : St} {x : Ex} (h : pUn f s = some (x, s')) (k : take sHat s' = (false, s')) : pPow (f + 1) s = some (x, s') := by
  unfold pPow; rw [h]; simp [k]
theorem up_prod {f : Nat} {s s' : St} {x : Ex} (h : pPow (f + 1) s = some (x, s')) (k : sgn [sStar, sSlash, sPct] s' = (none, s')) : pProd (f + 2) s = some (x, s') := by
  unfold pProd; rw [h]; simp [lProd, k]
theorem up_sum {f : Nat} {s s' : St} {x : Ex} (h : pProd (f + 1) s = some (x, s')) (k : sgn [sPlus, sMinus] s' = (none, s')) : pSum (f + 2) s = some (x, s') := by
  unfold pSum; rw [h]; simp [lSum, k]
theorem up_not {f : Nat} {s s' : St} {x : Ex} (h : pSum f s = some (x, s')) (k0 : sgn [sNot, sBang] s = (none, s)) (k : sgn cmps s' = (none, s')) : pNot (f + 1) s = some (x, s') := by
  unfold pNot; rw [k0, h]; simp [k]
theorem up_and {f : Nat} {s s' : St} {x : Ex} (h : pNot (f + 1) s = some (x, s')) (k : take sAnd s' = (false, s')) : pAnd (f + 2) s = some (x, s') := by
  unfold pAnd; rw [h]; simp [lAnd, k]
theorem up_expr {f : Nat} {s s' : St} {x : Ex} (h : pAnd (f + 1) s = some (x, s')) (k : take sOr s' = (false, s')) : pExpr (f + 2) s = some (x, s') := by
  unfold pExpr; rw [h]; simp [lOr, k]
theorem noNot_sgn {t : List Tk} (h : noNot t) : sgn [sNot, sBang] (t, false) = (none, (t, false)) := by
  obtain ⟨a, q, rfl, h1, h2⟩ := h
  refine sgn_none fun c hc => ?_
  simp only [List.mem_cons, List.mem_nil_iff, or_false] at hc
  rcases hc with rfl | rfl
  · exact h1
  · exact h2
theorem stop_hat {r} (h : stop r) : take sHat (r, false) = (false, (r, false)) := stop_take h (by decide) (by decide) (by decide) (by decide)
theorem stop_prod {r} (h : stop r) : sgn [sStar, sSlash, sPct] (r, false) = (none, (r, false)) := stop_sgn h (by decide)
theorem stop_sum {r} (h : stop r) : sgn [sPlus, sMinus] (r, false) = (none, (r, false)) := stop_sgn h (by decide)
theorem stop_cmp {r} (h : stop r) : sgn cmps (r, false) = (none, (r, false)) := stop_sgn h (by decide)
theorem stop_and {r} (h : stop r) : take sAnd (r, false) = (false, (r, false)) := stop_take h (by decide) (by decide) (by decide) (by decide)
theorem stop_or {r} (h : stop r) : take sOr (r, false) = (false, (r, false)) := stop_take h (by decide) (by decide) (by decide) (by decide)
theorem stop_lb {r} (h : stop r) : take sLb (r, false) = (false, (r, false)) := stop_take h (by decide) (by decide) (by decide) (by decide)
theorem up_all {f : Nat} {t r : List Tk} {x : Ex} (h : pUn f (t, false) = some (x, (r, false))) (hn : noNot t) (hr : stop r) : pNot (f + 4) (t, false) = some (x, (r, false)) :=
  up_not (up_sum (up_prod (up_pow h (stop_hat hr)) (stop_prod hr)) (stop_sum hr)) (noNot_sgn hn) (stop_cmp hr)
theorem up_top {f : Nat} {s : St} {r : List Tk} {x : Ex} (h : pNot (f + 1) s = some (x, (r, false))) (hr : stop r) : pExpr (f + 3) s = some (x, (r, false)) :=
  up_expr (up_and h (stop_and hr)) (stop_or hr)
mutual
def wt : Ex -> Nat
  | .mk _ _ _ p l => 1 + p.length + wtL l
def wtL : List Ex -> Nat
  | [] => 0
  | x :: r => wt x + wtL r
end
theorem wt_pos (x : Ex) : 1 <= wt x := by cases x; simp only [wt]; omega
theorem wt_mem : ∀ {l : List Ex} {x : Ex}, x ∈ l -> wt x <= wtL l
  | a :: r, x, h => by
    simp only [wtL]
    rcases List.mem_cons.1 h with rfl | h
    · omega
    · have := wt_mem h; omega
def fol (r : List Tk) : Prop := (∀ q, r ≠ S sLp :: q) /\ (∀ q, r ≠ S sArrow :: q)
theorem stop.fol {r : List Tk} (h : stop r) : fol r := by
  rcases h with rfl | ⟨q, rfl | rfl | rfl | rfl⟩
  · exact ⟨fun q e => (by cases e), fun q e => (by cases e)⟩
  · exact ⟨fun q e => absurd (S_inj (List.cons.inj e).1) (by decide), fun q e => absurd (S_inj (List.cons.inj e).1) (by decide)⟩
  · exact ⟨fun q e => absurd (S_inj (List.cons.inj e).1) (by decide), fun q e => absurd (S_inj (List.cons.inj e).1) (by decide)⟩
  · exact ⟨fun q e => absurd (S_inj (List.cons.inj e).1) (by decide), fun q e => absurd (S_inj (List.cons.inj e).1) (by decide)⟩
  · exact ⟨fun q e => absurd (S_inj (List.cons.inj e).1) (by decide), fun q e => absurd (S_inj (List.cons.inj e).1) (by decide)⟩
theorem fol_op {c : ByteArray} (q : List Tk) (h1 : c ≠ sLp) (h2 : c ≠ sArrow) : fol (S c :: q) :=
  ⟨fun q e => h1 (S_inj (List.cons.inj e).1), fun q e => h2 (S_inj (List.cons.inj e).1)⟩
theorem fol_lp {r : List Tk} (h : fol r) (t : Tk) : isSg (t :: r, false) 1 sLp = false := by
  cases r with
  | nil => simp [isSg, tok]
  | cons a q =>
    have : isSg (t :: a :: q, false) 1 sLp = isSg (a :: q, false) 0 sLp := by simp [isSg, tok]
    rw [this, isSg_cons]
    exact decide_eq_false fun e => h.1 q (by rw [e])
theorem fol_arrow {r : List Tk} (h : fol r) : take sArrow (r, false) = (false, (r, false)) := by
  cases r with
  | nil => exact take_nil _
  | cons a q => exact take_ne _ fun e => h.2 q (by rw [e])
def UOk (x : Ex) : Prop := ∀ (r : List Tk) (k f : Nat), fol r -> 100 * wt x + k <= f -> ∃ g, k <= g /\ pUn f (opd x (tks x) ++ r, false) = lIdx g x (r, false)
def EOk (x : Ex) (d : Int) : Prop := ∀ (r : List Tk) (f : Nat), stop r -> 100 * (wt x : Int) + d <= f -> pExpr f (tks x ++ r, false) = some (x, (r, false))
theorem UOk.un {x : Ex} (h : UOk x) {r : List Tk} (hf0 : fol r) (hr : take sLb (r, false) = (false, (r, false))) {f : Nat} (hf : 100 * wt x + 1 <= f) : pUn f (opd x (tks x) ++ r, false) = some (x, (r, false)) := by
  obtain ⟨g, hg, e⟩ := h r 1 f hf0 hf
  rw [e]
  obtain ⟨g, rfl⟩ : ∃ k, g = k + 1 := ⟨g - 1, by omega⟩
  simp [lIdx, hr]
theorem UOk.stop {x : Ex} (h : UOk x) {r : List Tk} (hr : stop r) {f : Nat} (hf : 100 * wt x + 1 <= f) : pUn f (opd x (tks x) ++ r, false) = some (x, (r, false)) := h.un hr.fol (stop_lb hr) hf
theorem UOk.op {x : Ex} (h : UOk x) {c : ByteArray} (hc : opB c = true) (q : List Tk) {f : Nat} (hf : 100 * wt x + 1 <= f) : pUn f (opd x (tks x) ++ S c :: q, false) = some (x, (S c :: q, false)) := by
  refine h.un (fol_op q ?_ ?_) (take_ne _ fun e => ?_) hf
  · rintro rfl; exact absurd hc (by decide)
  · rintro rfl; exact absurd hc (by decide)
  · have := S_inj e; subst this; exact absurd hc (by decide)
theorem U_of_prim {x : Ex} {t : Tk} {q : List Tk} (h4 : x.op ≠ 4) (h5 : x.op ≠ 5) (hq : tks x = t :: q) (ht : t ≠ S sMinus)
    (hp : ∀ (r : List Tk) (f : Nat), fol r -> 100 * wt x <= f + 20 -> pPrim f (t :: q ++ r, false) = some (x, (r, false))) : UOk x := by
  intro r k f hr hf
  have e : opd x (tks x) = t :: q := by unfold opd; rw [if_neg (by simp [h4, h5]), hq]
  obtain ⟨f, rfl⟩ : ∃ f', f = f' + 1 := ⟨f - 1, by have := wt_pos x; omega⟩
  refine ⟨f, by have := wt_pos x; omega, ?_⟩
  rw [e]
  unfold pUn
  rw [List.cons_append, take_ne _ ht]
  have := hp r f hr (by omega)
  rw [List.cons_append] at this
  simp [this]
theorem E_of_U {x : Ex} (h4 : x.op ≠ 4) (h5 : x.op ≠ 5) (hn : ∀ r, noNot (tks x ++ r)) (h : UOk x) : EOk x 20 := by
  intro r f hr hf
  have e : opd x (tks x) = tks x := by unfold opd; rw [if_neg (by simp [h4, h5])]
  obtain ⟨f, rfl⟩ : ∃ f', f = f' + 6 := ⟨f - 6, by omega⟩
  have := h.stop hr (f := f) (by omega)
  rw [e] at this
  exact up_top (up_all this (hn r) hr) hr
theorem U_of_E {x : Ex} (h45 : x.op = 4 \/ x.op = 5) (h : EOk x (-60)) : UOk x := by
  intro r k f hr hf
  have hw := wt_pos x
  have e : opd x (tks x) = S sLp :: (tks x ++ [S sRp]) := by unfold opd; rw [if_pos (by rcases h45 with h | h <;> simp [h])]
  obtain ⟨f, rfl⟩ : ∃ f', f = f' + 2 := ⟨f - 2, by omega⟩
  refine ⟨f + 1, by omega, ?_⟩
  have hE := h (S sRp :: r) f (stop_rp r) (by omega)
  have e2 : sgn prims (S sLp :: (tks x ++ S sRp :: r), false) = (some sLp, (tks x ++ S sRp :: r, false)) := sgn_same (memB (by decide))
  have hp : pPrim (f + 1) (S sLp :: (tks x ++ S sRp :: r), false) = some (x, (r, false)) := by
    unfold pPrim
    have a : isSg (S sLp :: (tks x ++ S sRp :: r), false) 0 sAmp = false := by rw [isSg_cons]; decide
    simp only [a, e2, tok_S, Sk, Bool.false_eq_true, if_false]
    simp [hE, want_same, show sLp ≠ sTrue by decide, show sLp ≠ sFalse by decide, show sLp ≠ sNull by decide]
  rw [e]
  unfold pUn
  rw [List.cons_append, take_ne _ (by decide), List.append_assoc, List.singleton_append]
  simp [hp]
theorem E_bin {c : ByteArray} {a b : Ex} (hc : opB c = true) (ha : UOk a) (hb : UOk b) (hna : ∀ r, noNot (opd a (tks a) ++ r)) (hnb : ∀ r, noNot (opd b (tks b) ++ r))
    {x : Ex} (hx : x = .bin c a b) : EOk x (-60) := by
  subst hx
  intro r f hr hf
  have hw : wt (.bin c a b) = 1 + (wt a + wt b) := by simp [Ex.bin, wt, wtL]
  have wa := wt_pos a
  have wb := wt_pos b
  rw [hw] at hf
  have et : tks (.bin c a b) = opd a (tks a) ++ S c :: opd b (tks b) := by simp [Ex.bin, tks]
  rw [et, List.append_assoc, List.cons_append]
  obtain ⟨f, rfl⟩ : ∃ f', f = f' + 10 := ⟨f - 10, by omega⟩
  have UA : ∀ g, f <= g + 3 -> pUn g (opd a (tks a) ++ S c :: (opd b (tks b) ++ r), false) = some (a, (S c :: (opd b (tks b) ++ r), false)) := fun g hg => ha.op hc _ (by omega)
  have UB : ∀ g, f <= g + 3 -> pUn g (opd b (tks b) ++ r, false) = some (b, (r, false)) := fun g hg => hb.stop hr (by omega)
  have m : c ∈ opsL := memB hc
  have PB : ∀ g, f <= g + 2 -> pPow (g + 1) (opd b (tks b) ++ r, false) = some (b, (r, false)) := fun g hg => up_pow (UB g (by omega)) (stop_hat hr)
  have QB : ∀ g, f <= g + 2 -> pProd (g + 2) (opd b (tks b) ++ r, false) = some (b, (r, false)) := fun g hg => up_prod (PB g hg) (stop_prod hr)
  have RB : ∀ g, f <= g + 2 -> pSum (g + 3) (opd b (tks b) ++ r, false) = some (b, (r, false)) := fun g hg => up_sum (QB g hg) (stop_sum hr)
  have NB : ∀ g, f <= g + 2 -> pNot (g + 4) (opd b (tks b) ++ r, false) = some (b, (r, false)) := fun g hg => up_all (UB g (by omega)) (hnb r) hr
  have ne : ∀ {d : ByteArray} q, c ≠ d -> take d (S c :: q, false) = (false, (S c :: q, false)) := fun q h => take_ne q fun e => h (S_inj e)
  have nn : ∀ {l : List ByteArray} q, (∀ d ∈ l, c ≠ d) -> sgn l (S c :: q, false) = (none, (S c :: q, false)) := fun q h => sgn_none fun d hd e => h d hd (S_inj e)
  have n0 := noNot_sgn (hna (S c :: (opd b (tks b) ++ r)))
  by_cases c1 : c = sHat
  · subst c1
    have h1 : pPow (f + 5) (opd a (tks a) ++ S sHat :: (opd b (tks b) ++ r), false) = some (.bin sHat a b, (r, false)) := by
      unfold pPow; rw [UA (f + 4) (by omega)]; simp [take_same, PB (f + 3) (by omega)]
    exact up_top (up_not (up_sum (up_prod h1 (stop_prod hr)) (stop_sum hr)) n0 (stop_cmp hr)) hr |> fun h => by simpa using h
  have PA : ∀ g, f <= g + 2 -> pPow (g + 1) (opd a (tks a) ++ S c :: (opd b (tks b) ++ r), false) = some (a, (S c :: (opd b (tks b) ++ r), false)) := fun g hg => up_pow (UA g (by omega)) (ne _ c1)
  by_cases c2 : c ∈ [sStar, sSlash, sPct]
  · have h1 : pProd (f + 6) (opd a (tks a) ++ S c :: (opd b (tks b) ++ r), false) = some (.bin c a b, (r, false)) := by
      unfold pProd; rw [PA (f + 4) (by omega)]; simp [lProd, sgn_same c2, PB (f + 3) (by omega), stop_prod hr]
    exact up_top (up_not (up_sum h1 (stop_sum hr)) n0 (stop_cmp hr)) hr |> fun h => by simpa using h
  have QA : ∀ g, f <= g + 2 -> pProd (g + 2) (opd a (tks a) ++ S c :: (opd b (tks b) ++ r), false) = some (a, (S c :: (opd b (tks b) ++ r), false)) := fun g hg => up_prod (PA g hg) (nn _ fun d hd e => c2 (e ▸ hd))
  by_cases c3 : c ∈ [sPlus, sMinus]
  · have h1 : pSum (f + 7) (opd a (tks a) ++ S c :: (opd b (tks b) ++ r), false) = some (.bin c a b, (r, false)) := by
      unfold pSum; rw [QA (f + 4) (by omega)]; simp [lSum, sgn_same c3, QB (f + 3) (by omega), stop_sum hr]
    exact up_top (up_not h1 n0 (stop_cmp hr)) hr |> fun h => by simpa using h
  have RA : ∀ g, f <= g + 2 -> pSum (g + 3) (opd a (tks a) ++ S c :: (opd b (tks b) ++ r), false) = some (a, (S c :: (opd b (tks b) ++ r), false)) := fun g hg => up_sum (QA g hg) (nn _ fun d hd e => c3 (e ▸ hd))
  by_cases c4 : c = sAnd
  · subst c4
    have NA : pNot (f + 8) (opd a (tks a) ++ S sAnd :: (opd b (tks b) ++ r), false) = some (a, (S sAnd :: (opd b (tks b) ++ r), false)) := up_not (RA (f + 4) (by omega)) n0 (nn _ (by decide))
    have h1 : pAnd (f + 9) (opd a (tks a) ++ S sAnd :: (opd b (tks b) ++ r), false) = some (.bin sAnd a b, (r, false)) := by
      unfold pAnd; rw [NA]; simp [lAnd, take_same, NB (f + 3) (by omega), stop_and hr]
    exact up_expr h1 (stop_or hr)
  by_cases c5 : c = sOr
  · subst c5
    have NA : pNot (f + 7) (opd a (tks a) ++ S sOr :: (opd b (tks b) ++ r), false) = some (a, (S sOr :: (opd b (tks b) ++ r), false)) := up_not (RA (f + 3) (by omega)) n0 (nn _ (by decide))
    have AA : pAnd (f + 9) (opd a (tks a) ++ S sOr :: (opd b (tks b) ++ r), false) = some (a, (S sOr :: (opd b (tks b) ++ r), false)) := up_and (up_not (RA (f + 4) (by omega)) n0 (nn _ (by decide))) (ne _ (by decide))
    have AB : pAnd (f + 8) (opd b (tks b) ++ r, false) = some (b, (r, false)) := up_and (NB (f + 3) (by omega)) (stop_and hr)
    unfold pExpr; rw [AA]; simp [lOr, take_same, AB, stop_or hr]
  · have c6 : c ∈ cmps /\ norm c = c := by
      simp only [opsL, List.mem_cons, List.mem_nil_iff, or_false] at m
      rcases m with rfl | rfl | rfl | rfl | rfl | rfl | rfl | rfl | rfl | rfl | rfl | rfl | rfl | rfl | rfl | rfl <;> first | (exact ⟨memB (by decide), by decide⟩) | (exact absurd (memB (by decide)) c2) | (exact absurd (memB (by decide)) c3) | (exact absurd rfl c1) | (exact absurd rfl c4) | (exact absurd rfl c5)
    have h1 : pNot (f + 8) (opd a (tks a) ++ S c :: (opd b (tks b) ++ r), false) = some (.bin c a b, (r, false)) := by
      unfold pNot; rw [n0, RA (f + 4) (by omega)]; simp [sgn_same c6.1, RB (f + 4) (by omega), c6.2]
    exact up_top h1 hr
theorem E_neg {a x : Ex} (ha : UOk a) (hx : x = .un sMinus a) : EOk x (-60) := by
  subst hx
  intro r f hr hf
  have hw : wt (.un sMinus a) = 1 + wt a := by simp [Ex.un, wt, wtL]
  have wa := wt_pos a
  rw [hw] at hf
  have et : tks (.un sMinus a) = S sMinus :: opd a (tks a) := by simp [Ex.un, tks]
  rw [et, List.cons_append]
  obtain ⟨f, rfl⟩ : ∃ f', f = f' + 7 := ⟨f - 7, by omega⟩
  have h1 : pUn (f + 1) (S sMinus :: (opd a (tks a) ++ r), false) = some (.un sMinus a, (r, false)) := by
    unfold pUn; rw [take_same]; simp [ha.stop hr (f := f) (by omega)]
  exact up_top (up_all h1 ⟨_, _, rfl, by decide, by decide⟩ hr) hr
theorem E_not {a x : Ex} (ha : UOk a) (hna : ∀ r, noNot (opd a (tks a) ++ r)) (hx : x = .un sNot a) : EOk x (-60) := by
  subst hx
  intro r f hr hf
  have hw : wt (.un sNot a) = 1 + wt a := by simp [Ex.un, wt, wtL]
  have wa := wt_pos a
  rw [hw] at hf
  have et : tks (.un sNot a) = S sNot :: opd a (tks a) := by simp [Ex.un, tks]
  rw [et, List.cons_append]
  obtain ⟨f, rfl⟩ : ∃ f', f = f' + 7 := ⟨f - 7, by omega⟩
  have h1 : pNot (f + 5) (S sNot :: (opd a (tks a) ++ r), false) = some (.un sNot a, (r, false)) := by
    unfold pNot; rw [sgn_same (l := [sNot, sBang]) (memB (by decide))]; simp [up_all (ha.stop hr (f := f) (by omega)) (hna r) hr]
  exact up_top h1 hr
def goodH (t : Tk) : Prop := t ≠ S sNot /\ t ≠ S sBang /\ t ≠ S sMinus /\ t ≠ S sRp /\ t ≠ S sBar
theorem goodH_k {t : Tk} (h : t.k ≠ 4) : goodH t := by
  refine ⟨?_, ?_, ?_, ?_, ?_⟩ <;> (rintro rfl; exact h rfl)
theorem goodH_noNot {t : Tk} {q r : List Tk} {l : List Tk} (e : l = t :: q) (h : goodH t) : noNot (l ++ r) := ⟨t, q ++ r, by rw [e]; rfl, h.1, h.2.1⟩
theorem isEx_parts {op s v p l} (h : isEx (.mk op s v p l) = true) : (op ≠ 0 -> v = vd0) /\ (op ≠ 8 -> p = []) /\ allEx l = true /\ opOk op s v p l.length = true := by
  simp only [isEx, Bool.and_eq_true, Bool.not_eq_true', Bool.and_eq_false_iff, bne_eq_false_iff_eq, Bool.not_eq_false', List.isEmpty_iff] at h
  obtain ⟨⟨⟨h1, h2⟩, h3⟩, h4⟩ := h
  exact ⟨fun e => h1.resolve_left e, fun e => by simpa using h2.resolve_left e, h3, h4⟩
theorem allEx_mem : ∀ {l : List Ex} {x : Ex}, allEx l = true -> x ∈ l -> isEx x = true
  | a :: r, x, h, hx => by
    simp only [allEx, Bool.and_eq_true] at h
    rcases List.mem_cons.1 hx with rfl | hx
    · exact h.1
    · exact allEx_mem h.2 hx
inductive Sh : Ex -> Prop
  | cst (v) : constB v = true -> Sh (.cst v)
  | nam (s) : nameB s = true -> Sh (.nam s)
  | ref (s) : nameB s = true -> Sh (.mk 10 s vd0 [] [])
  | ali (s a) : nameB s = true -> isEx a = true -> Sh (.mk 2 s vd0 [] [a])
  | call (s l) : nameB s = true -> allEx l = true -> Sh (.mk 3 s vd0 [] l)
  | neg (a) : isEx a = true -> Sh (.un sMinus a)
  | not (a) : isEx a = true -> Sh (.un sNot a)
  | bin (c a b) : opB c = true -> isEx a = true -> isEx b = true -> Sh (.bin c a b)
  | idx (a b) : isEx a = true -> isEx b = true -> Sh (.mk 6 ByteArray.empty vd0 [] [a, b])
  | list (l) : l ≠ [] -> allEx l = true -> Sh (.mk 7 ByteArray.empty vd0 [] l)
  | block (p a) : p.all nameB = true -> isEx a = true -> Sh (.mk 8 ByteArray.empty vd0 p [a])
  | mac (s) : nameB s = true -> Sh (.mk 9 s vd0 [] [])
  | macx (a) : isEx a = true -> Sh (.mk 9 ByteArray.empty vd0 [] [a])
theorem len1 {l : List Ex} (h : l.length = 1) : ∃ a, l = [a] := List.length_eq_one_iff.1 h
theorem len2 {l : List Ex} (h : l.length = 2) : ∃ a b, l = [a, b] := by
  match l, h with
  | [a, b], _ => exact ⟨a, b, rfl⟩
theorem sh_of {x : Ex} (h : isEx x = true) : Sh x := by
  obtain ⟨op, s, v, p, l⟩ := x
  obtain ⟨hv, hp, hl, ho⟩ := isEx_parts h
  unfold opOk at ho
  by_cases e : op = 0
  · subst e
    simp only [if_true, Bool.and_eq_true, decide_eq_true_eq] at ho
    obtain rfl := hp (by decide)
    obtain rfl := List.length_eq_zero_iff.1 ho.1.2
    obtain rfl := ho.1.1
    exact .cst v ho.2
  obtain rfl := hv e
  rw [if_neg e] at ho
  by_cases e1 : op = 1
  · subst e1
    simp at ho
    obtain rfl := hp (by decide)
    obtain rfl := ho.2
    exact .nam s ho.1
  by_cases e2 : op = 10
  · subst e2
    simp at ho
    obtain rfl := hp (by decide)
    obtain rfl := ho.2
    exact .ref s ho.1
  rw [if_neg (by simp [e1, e2])] at ho
  by_cases e3 : op = 2
  · subst e3
    simp at ho
    obtain rfl := hp (by decide)
    obtain ⟨a, rfl⟩ := len1 ho.2
    simp [allEx] at hl
    exact .ali s a ho.1 hl
  rw [if_neg e3] at ho
  by_cases e4 : op = 3
  · subst e4
    simp at ho
    obtain rfl := hp (by decide)
    exact .call s l ho hl
  rw [if_neg e4] at ho
  by_cases e5 : op = 4
  · subst e5
    simp at ho
    obtain rfl := hp (by decide)
    obtain ⟨a, rfl⟩ := len1 ho.2
    simp [allEx] at hl
    rcases ho.1 with rfl | rfl
    · exact .neg a hl
    · exact .not a hl
  rw [if_neg e5] at ho
  by_cases e6 : op = 5
  · subst e6
    simp at ho
    obtain rfl := hp (by decide)
    obtain ⟨a, b, rfl⟩ := len2 ho.2
    simp [allEx] at hl
    exact .bin s a b ho.1 hl.1 hl.2
  rw [if_neg e6] at ho
  by_cases e7 : op = 6
  · subst e7
    simp at ho
    obtain rfl := hp (by decide)
    obtain ⟨a, b, rfl⟩ := len2 ho.2
    simp [allEx] at hl
    obtain rfl := ho.1
    exact .idx a b hl.1 hl.2
  rw [if_neg e7] at ho
  by_cases e8 : op = 7
  · subst e8
    simp at ho
    obtain rfl := hp (by decide)
    obtain rfl := ho.1
    exact .list l (by intro hn; subst hn; simp at ho) hl
  rw [if_neg e8] at ho
  by_cases e9 : op = 8
  · subst e9
    simp only [if_true, Bool.and_eq_true, decide_eq_true_eq] at ho
    obtain ⟨a, rfl⟩ := len1 ho.1.2
    simp [allEx] at hl
    obtain rfl := ho.1.1
    exact .block p a ho.2 hl
  rw [if_neg e9] at ho
  by_cases e10 : op = 9
  · subst e10
    simp at ho
    obtain rfl := hp (by decide)
    rcases ho with ⟨h1, rfl⟩ | ⟨rfl, h2⟩
    · exact .mac s h1
    · obtain ⟨a, rfl⟩ := len1 h2
      simp [allEx] at hl
      exact .macx a hl
  · rw [if_neg e10] at ho; cases ho
theorem opd_ne {x : Ex} (h4 : x.op ≠ 4) (h5 : x.op ≠ 5) (t : List Tk) : opd x t = t := by unfold opd; rw [if_neg (by simp [h4, h5])]
theorem opd_eq {x : Ex} (h : x.op = 4 \/ x.op = 5) (t : List Tk) : opd x t = S sLp :: (t ++ [S sRp]) := by unfold opd; rw [if_pos (by rcases h with h | h <;> simp [h])]
theorem cstTk_one {v : Vl} (h : constB v = true) : ∃ t, cstTk v = [t] /\ goodH t /\ t ≠ S sAmp /\ errV v = 0 := by
  have he : errV v = 0 := by
    unfold errV
    have hs : ¬ 2048 < v.s.size := by
      unfold constB at h
      split at h
      · simp at h; simp [h.2]
      split at h
      · simp at h; simp [h.2]
      split at h
      · simp at h; simp [h.2]
      split at h
      · simp at h; simp [h.2]
      · simp at h; omega
    rw [if_neg hs]
    have : okV v = true := by
      unfold constB at h
      unfold okV
      split at h
      · rename_i e; rw [if_pos e]; exact h
      rename_i e; rw [if_neg e]
      split at h
      · rename_i e; rw [if_pos e]; exact h
      rename_i e; rw [if_neg e]
      split at h
      · rename_i e; rw [if_pos e]; simp at h ⊢; exact ⟨⟨by omega, by omega⟩, h.2⟩
      rename_i e; rw [if_neg e]
      split at h
      · rename_i e; rw [if_pos e]; exact h
      rename_i e; rw [if_neg e]
      simp at h ⊢; exact ⟨h.1.1.1, h.1.1.2⟩
    rw [this]; rfl
  unfold cstTk
  rw [if_neg (by simp [he])]
  split
  · exact ⟨_, rfl, ⟨by decide, by decide, by decide, by decide, by decide⟩, by decide, he⟩
  split
  · refine ⟨_, rfl, ?_, ?_, he⟩
    · split <;> exact ⟨by decide, by decide, by decide, by decide, by decide⟩
    · split <;> decide
  split
  · exact ⟨_, rfl, goodH_k (by simp), by simp [S], he⟩
  split
  · exact ⟨_, rfl, goodH_k (by simp), by simp [S], he⟩
  · exact ⟨_, rfl, goodH_k (by simp), by simp [S], he⟩
theorem tks_nam (s : ByteArray) : tks (.nam s) = [W s] := by simp [Ex.nam, tks]
theorem tks_ref (s : ByteArray) : tks (.mk 10 s vd0 [] []) = [S sAt, W s] := by simp [tks]
theorem tks_ali (s : ByteArray) (a : Ex) : tks (.mk 2 s vd0 [] [a]) = W s :: S sArrow :: (if a.op = 1 then [W a.s] else S sLp :: (tks a ++ [S sRp])) := by simp [tks]
theorem tks_call (s : ByteArray) (l : List Ex) : tks (.mk 3 s vd0 [] l) = W s :: S sLp :: (tksL l ++ [S sRp]) := by unfold tks; simp
theorem tks_un (c : ByteArray) (a : Ex) : tks (.un c a) = S c :: opd a (tks a) := by simp [Ex.un, tks]
theorem tks_bin (c : ByteArray) (a b : Ex) : tks (.bin c a b) = opd a (tks a) ++ S c :: opd b (tks b) := by simp [Ex.bin, tks]
theorem tks_idx (a b : Ex) : tks (.mk 6 ByteArray.empty vd0 [] [a, b]) = opd a (tks a) ++ S sLb :: (tks b ++ [S sRb]) := by simp [tks]
theorem tks_list (l : List Ex) : tks (.mk 7 ByteArray.empty vd0 [] l) = S sLc :: (tksL l ++ [S sRc]) := by unfold tks; simp
theorem tks_block (p : List ByteArray) (a : Ex) : tks (.mk 8 ByteArray.empty vd0 p [a]) = S sLc :: S sBar :: (nmTks p ++ S sBar :: (tks a ++ [S sRc])) := by simp [tks]
theorem tks_mac (s : ByteArray) : tks (.mk 9 s vd0 [] []) = [S sAmp, W s, S sDot] := by simp [tks]
theorem tks_macx (a : Ex) : tks (.mk 9 ByteArray.empty vd0 [] [a]) = S sAmp :: S sLp :: (tks a ++ [S sRp]) := by simp [tks]
theorem heads : ∀ n x, wt x <= n -> isEx x = true -> (∃ t q, opd x (tks x) = t :: q /\ goodH t) /\ (∃ t q, tks x = t :: q /\ t ≠ S sRp /\ t ≠ S sBar)
  | 0, x, h, _ => by have := wt_pos x; omega
  | n + 1, x, h, hx => by
    have two : ∀ {y : Ex} {t q}, y.op ≠ 4 -> y.op ≠ 5 -> tks y = t :: q -> goodH t -> (∃ t q, opd y (tks y) = t :: q /\ goodH t) /\ (∃ t q, tks y = t :: q /\ t ≠ S sRp /\ t ≠ S sBar) :=
      fun h4 h5 e g => ⟨⟨_, _, by rw [opd_ne h4 h5]; exact e, g⟩, _, _, e, g.2.2.2.1, g.2.2.2.2⟩
    have lp : goodH (S sLp) := ⟨by decide, by decide, by decide, by decide, by decide⟩
    have lc : goodH (S sLc) := ⟨by decide, by decide, by decide, by decide, by decide⟩
    have am : goodH (S sAmp) := ⟨by decide, by decide, by decide, by decide, by decide⟩
    have aa : goodH (S sAt) := ⟨by decide, by decide, by decide, by decide, by decide⟩
    cases sh_of hx with
    | cst v hv =>
      obtain ⟨t, e, g, _⟩ := cstTk_one hv
      exact two (by simp [Ex.cst, Ex.op]) (by simp [Ex.cst, Ex.op]) (q := []) (by simp [Ex.cst, tks, e]) g
    | nam s hs => exact two (by simp [Ex.nam, Ex.op]) (by simp [Ex.nam, Ex.op]) (tks_nam s) (goodH_k (by simp [W]))
    | ref s hs => exact two (by simp [Ex.op]) (by simp [Ex.op]) (tks_ref s) aa
    | ali s a hs ha => exact two (by simp [Ex.op]) (by simp [Ex.op]) (tks_ali s a) (goodH_k (by simp [W]))
    | call s l hs hl => exact two (by simp [Ex.op]) (by simp [Ex.op]) (tks_call s l) (goodH_k (by simp [W]))
    | neg a ha => exact ⟨⟨_, _, opd_eq (.inl rfl) _, lp⟩, _, _, tks_un _ a, by decide, by decide⟩
    | not a ha => exact ⟨⟨_, _, opd_eq (.inl rfl) _, lp⟩, _, _, tks_un _ a, by decide, by decide⟩
    | bin c a b hc ha hb =>
      obtain ⟨⟨t, q, e, g⟩, _⟩ := heads n a (by simp [Ex.bin, wt, wtL] at h; omega) ha
      exact ⟨⟨_, _, opd_eq (.inr rfl) _, lp⟩, t, q ++ S c :: opd b (tks b), by rw [tks_bin, e]; rfl, g.2.2.2.1, g.2.2.2.2⟩
    | idx a b ha hb =>
      obtain ⟨⟨t, q, e, g⟩, _⟩ := heads n a (by simp [wt, wtL] at h; omega) ha
      exact two (by simp [Ex.op]) (by simp [Ex.op]) (q := q ++ S sLb :: (tks b ++ [S sRb])) (by rw [tks_idx, e]; rfl) g
    | list l hn hl => exact two (by simp [Ex.op]) (by simp [Ex.op]) (tks_list l) lc
    | block p a hp ha => exact two (by simp [Ex.op]) (by simp [Ex.op]) (tks_block p a) lc
    | mac s hs => exact two (by simp [Ex.op]) (by simp [Ex.op]) (tks_mac s) am
    | macx a ha => exact two (by simp [Ex.op]) (by simp [Ex.op]) (tks_macx a) am
theorem head_opd {x : Ex} (h : isEx x = true) : ∃ t q, opd x (tks x) = t :: q /\ goodH t := (heads _ x (Nat.le_refl _) h).1
theorem head_tks {x : Ex} (h : isEx x = true) : ∃ t q, tks x = t :: q /\ t ≠ S sRp /\ t ≠ S sBar := (heads _ x (Nat.le_refl _) h).2
theorem opd_noNot {x : Ex} (h : isEx x = true) (r : List Tk) : noNot (opd x (tks x) ++ r) := by
  obtain ⟨t, q, e, g⟩ := head_opd h
  exact goodH_noNot e g
theorem nameB_size {s : ByteArray} (h : nameB s = true) : s.size <= 10 := by
  simp only [nameB, Bool.and_eq_true, decide_eq_true_eq] at h; exact h.1.1.2
theorem rname_W {s : ByteArray} (h : nameB s = true) (r : List Tk) : rname (W s :: r, false) = (s, (r, false)) := by
  unfold rname
  have := nameB_size h
  simp [tok, W]; omega
def moreN : List ByteArray -> List Tk
  | [] => []
  | a :: r => S sComma :: nmTks (a :: r)
theorem nmTks_cons (a : ByteArray) (p : List ByteArray) : nmTks (a :: p) = W a :: moreN p := by cases p <;> simp [nmTks, moreN]
def moreL : List Ex -> List Tk
  | [] => []
  | x :: r => S sComma :: tksL (x :: r)
theorem tksL_cons (x : Ex) (r : List Ex) : tksL (x :: r) = tks x ++ moreL r := by cases r <;> simp [tksL, moreL]
theorem moreN_cons (a : ByteArray) (p : List ByteArray) : moreN (a :: p) = S sComma :: W a :: moreN p := by rw [moreN, nmTks_cons]
theorem moreL_cons (x : Ex) (r : List Ex) : moreL (x :: r) = S sComma :: (tks x ++ moreL r) := by rw [moreL, tksL_cons]
theorem lNames_rt : ∀ (p : List ByteArray) (l : List ByteArray) (f : Nat) (r : List Tk), p.all nameB = true -> p.length + 1 <= f ->
    lNames f l (moreN p ++ S sBar :: r, false) = some (l ++ p, (S sBar :: r, false))
  | [], l, f, r, _, hf => by
    obtain ⟨f, rfl⟩ : ∃ k, f = k + 1 := ⟨f - 1, by simp at hf; omega⟩
    unfold lNames
    simp [moreN, take_ne (t := S sBar) (c := sComma) r (by decide)]
  | a :: p, l, f, r, h, hf => by
    simp only [List.all_cons, Bool.and_eq_true] at h
    obtain ⟨f, rfl⟩ : ∃ k, f = k + 1 := ⟨f - 1, by simp at hf; omega⟩
    unfold lNames
    simp only [moreN_cons, List.cons_append, take_same, rname_W h.1]
    have := lNames_rt p (l ++ [a]) f r h.2 (by simp at hf; omega)
    simp only [if_true]
    rw [this]; simp
theorem pNames_rt (a : ByteArray) (p : List ByteArray) (f : Nat) (r : List Tk) (h : (a :: p).all nameB = true) (hf : p.length + 1 <= f) :
    pNames f (nmTks (a :: p) ++ S sBar :: r, false) = some (a :: p, (S sBar :: r, false)) := by
  simp only [List.all_cons, Bool.and_eq_true] at h
  have e := nmTks_cons a p
  unfold pNames
  rw [e]
  simp only [List.cons_append, rname_W h.1]
  simpa using lNames_rt p [a] f r h.2 hf
theorem lList_rt : ∀ (m : List Ex) (l : List Ex) (f : Nat) (c : ByteArray) (r : List Tk), (∀ x ∈ m, EOk x 20) -> stop (S c :: r) -> c ≠ sComma -> 100 * wtL m + 21 <= f ->
    lList f l (moreL m ++ S c :: r, false) = some (l ++ m, (S c :: r, false))
  | [], l, f, c, r, _, hs, hc, hf => by
    obtain ⟨f, rfl⟩ : ∃ k, f = k + 1 := ⟨f - 1, by omega⟩
    unfold lList
    simp [moreL, take_ne (t := S c) (c := sComma) r (fun e => hc (S_inj e))]
  | x :: m, l, f, c, r, h, hs, hc, hf => by
    have wx := wt_pos x
    simp only [wtL] at hf
    obtain ⟨f, rfl⟩ : ∃ k, f = k + 1 := ⟨f - 1, by omega⟩
    unfold lList
    simp only [moreL_cons, List.cons_append, take_same, if_true, List.append_assoc]
    have hst : stop (moreL m ++ S c :: r) := by
      cases m with
      | nil => exact hs
      | cons y m => exact stop_comma _
    rw [h x (by simp) _ f hst (by omega)]
    have := lList_rt m (l ++ [x]) f c r (fun y hy => h y (by simp [hy])) hs hc (by omega)
    simp only [Option.bind_some]
    rw [this]; simp
theorem pList_rt (x : Ex) (m : List Ex) (f : Nat) (c : ByteArray) (r : List Tk) (h : ∀ y ∈ x :: m, EOk y 20) (hs : stop (S c :: r)) (hc : c ≠ sComma) (hf : 100 * wtL (x :: m) + 25 <= f) :
    pList f (tksL (x :: m) ++ S c :: r, false) = some (x :: m, (S c :: r, false)) := by
  have wx := wt_pos x
  simp only [wtL] at hf
  obtain ⟨f, rfl⟩ : ∃ k, f = k + 1 := ⟨f - 1, by omega⟩
  have hst : stop (moreL m ++ S c :: r) := by
    cases m with
    | nil => exact hs
    | cons y m => exact stop_comma _
  unfold pList
  rw [tksL_cons, List.append_assoc, h x (by simp) _ f hst (by omega)]
  have := lList_rt m [x] f c r (fun y hy => h y (by simp [hy])) hs hc (by omega)
  simp only [Option.bind_some]
  rw [this]; simp
theorem leap_step (y : Int) (h : 1 <= y) : fy (y + 1) = fy y + (if leap y then 366 else 365) := by
  unfold fy leap
  have e1 : y + 1 - 1 = y := by omega
  rw [e1]
  have t : ∀ k : Int, y.tdiv k = y / k := fun k => Int.tdiv_eq_ediv_of_nonneg (by omega)
  have t2 : ∀ k : Int, (y - 1).tdiv k = (y - 1) / k := fun k => Int.tdiv_eq_ediv_of_nonneg (by omega)
  have t3 : ∀ k : Int, y.tmod k = y % k := fun k => Int.tmod_eq_emod_of_nonneg (by omega)
  rw [t, t, t, t2, t2, t2, t3, t3, t3]
  by_cases a : y % 4 = 0 <;> by_cases b : y % 100 = 0 <;> by_cases c : y % 400 = 0 <;> simp [a, b, c] <;> omega
theorem mdays_12 (y : Int) : mdays y 12 = if leap y then 366 else 365 := by
  simp only [mdays, mlen]
  cases leap y <;> decide
theorem mdays_step (y : Int) (m : Nat) : mdays y (m + 1) = mdays y m + mlen y (m + 1 : Nat) := rfl
theorem mlen_pos (y m : Int) : 28 <= mlen y m := by
  unfold mlen; split
  · split <;> omega
  · split <;> omega
theorem srch_ok : ∀ (f : Nat) (day lo hi : Int), hi - lo <= f -> 1 <= lo -> lo <= hi -> fy lo <= day -> day < fy (hi + 1) ->
    1 <= srch f day lo hi /\ lo <= srch f day lo hi /\ srch f day lo hi <= hi /\ fy (srch f day lo hi) <= day /\ day < fy (srch f day lo hi + 1)
  | 0, day, lo, hi, h, h1, h2, h3, h4 => by
    have : lo = hi := by omega
    subst this
    exact ⟨h1, Int.le_refl _, h2, h3, h4⟩
  | f + 1, day, lo, hi, h, h1, h2, h3, h4 => by
    unfold srch
    by_cases hl : lo < hi
    · rw [if_pos hl]
      have hm : (lo + hi + 1).tdiv 2 = (lo + hi + 1) / 2 := Int.tdiv_eq_ediv_of_nonneg (by omega)
      rw [hm]
      by_cases hd : fy ((lo + hi + 1) / 2) <= day
      · rw [if_pos hd]
        have := srch_ok f day ((lo + hi + 1) / 2) hi (by omega) (by omega) (by omega) hd h4
        exact ⟨this.1, by omega, this.2.2⟩
      · rw [if_neg hd]
        have := srch_ok f day lo ((lo + hi + 1) / 2 - 1) (by omega) h1 (by omega) h3 (by rw [show (lo + hi + 1) / 2 - 1 + 1 = (lo + hi + 1) / 2 by omega]; omega)
        exact ⟨this.1, this.2.1, by omega, this.2.2.2⟩
    · rw [if_neg hl]
      have : lo = hi := by omega
      subst this
      exact ⟨h1, Int.le_refl _, h2, h3, h4⟩
theorem year_ok {day : Int} (h1 : 1 <= day) (h2 : day <= 3652059) : 1 <= yearOf day /\ yearOf day <= 9999 /\ fy (yearOf day) <= day /\ day < fy (yearOf day + 1) := by
  have e1 : fy 1 = 1 := by decide
  have e2 : fy (9999 + 1) = 3652060 := by decide
  have := srch_ok 9999 day 1 9999 (by decide) (by decide) (by decide) (by omega) (by omega)
  exact ⟨this.1, this.2.2.1, this.2.2.2.1, this.2.2.2.2⟩
theorem monF_ok : ∀ (m : Nat) (y day : Int), fy y <= day -> 1 <= m -> day < fy y + mdays y m -> 1 <= monF m y day /\ monF m y day <= m /\ fy y + mdays y (monF m y day - 1) <= day /\ day < fy y + mdays y (monF m y day)
  | 0, y, day, h, h1, _ => by omega
  | m + 1, y, day, h, h1, h2 => by
    unfold monF
    by_cases hd : fy y + mdays y m <= day
    · rw [if_pos hd]; exact ⟨by omega, by omega, by simpa using hd, h2⟩
    · rw [if_neg hd]
      have hm : 1 <= m := by
        rcases Nat.eq_zero_or_pos m with rfl | h
        · simp [mdays] at hd; omega
        · exact h
      have := monF_ok m y day h hm (by omega)
      exact ⟨this.1, by omega, this.2.2⟩
theorem mon_ok {day : Int} (h1 : 1 <= day) (h2 : day <= 3652059) : 1 <= monOf day /\ monOf day <= 12 /\ 1 <= domOf day /\ domOf day <= mlen (yearOf day) (monOf day : Int) := by
  have hy := year_ok h1 h2
  have := monF_ok 12 (yearOf day) day hy.2.2.1 (by decide) (by rw [mdays_12, <- leap_step _ hy.1]; exact hy.2.2.2)
  refine ⟨this.1, this.2.1, by unfold domOf monOf; omega, ?_⟩
  obtain ⟨k, hk⟩ : ∃ k, monOf day = k + 1 := ⟨monOf day - 1, by unfold monOf; omega⟩
  have h3 := this.2.2.2
  have h4 : monF 12 (yearOf day) day = k + 1 := hk
  rw [h4, mdays_step] at h3
  unfold domOf
  rw [hk]
  simp only [Nat.add_sub_cancel]
  omega
theorem day_ok {day : Int} (h1 : 1 <= day) (h2 : day <= 3652059) : dayOf (yearOf day) (monOf day : Int) (domOf day) = some day := by
  have hy := year_ok h1 h2
  have hm := mon_ok h1 h2
  unfold dayOf
  rw [if_neg (by simp; omega)]
  congr 1
  have : ((monOf day : Int) - 1).toNat = monOf day - 1 := by omega
  rw [this]
  unfold domOf fy
  omega
theorem pad_pos {k n : Nat} (h : n < 10 ^ (k + 1)) : (padN (k + 1) (wrN n)).length = k + 1 := pad_len (wrN_len k n h)
theorem wrI_pos {n : Int} (h : 0 <= n) : wrI n = wrN n.toNat := by unfold wrI; rw [if_neg (by omega)]
theorem stampL_len {day : Int} (h1 : 1 <= day) (h2 : day <= 3652059) : (padN 4 (wrI (yearOf day))).length = 4 /\ (padN 2 (wrI (monOf day : Int))).length = 2 /\ (padN 2 (wrI (domOf day))).length = 2 := by
  have hy := year_ok h1 h2
  have hm := mon_ok h1 h2
  have hl : mlen (yearOf day) (monOf day : Int) <= 31 := by
    unfold mlen; split
    · split <;> omega
    · split <;> omega
  refine ⟨?_, ?_, ?_⟩
  · rw [wrI_pos (by omega)]; exact pad_pos (k := 3) (by simp; omega)
  · rw [wrI_pos (by omega)]; exact pad_pos (k := 1) (by simp; omega)
  · rw [wrI_pos (by omega)]; exact pad_pos (k := 1) (by simp; omega)
theorem unstamp_stamp {day : Int} (h1 : 1 <= day) (h2 : day <= 3652059) : unstamp (bytesOf (stampL day)) = day := by
  have hy := year_ok h1 h2
  have hm := mon_ok h1 h2
  have hl : mlen (yearOf day) (monOf day : Int) <= 31 := by
    unfold mlen; split
    · split <;> omega
    · split <;> omega
  obtain ⟨l1, l2, l3⟩ := stampL_len h1 h2
  have a1 : (padN 4 (wrI (yearOf day))).all digB = true := by rw [wrI_pos (by omega)]; exact pad_all (wrN_all _).1
  have a2 : (padN 2 (wrI (monOf day : Int))).all digB = true := by rw [wrI_pos (by omega)]; exact pad_all (wrN_all _).1
  have a3 : (padN 2 (wrI (domOf day))).all digB = true := by rw [wrI_pos (by omega)]; exact pad_all (wrN_all _).1
  have v1 : valOf (bytesOf (padN 4 (wrI (yearOf day)))) = yearOf day := by rw [wrI_pos (by omega), val_pad _ _ (by omega)]; omega
  have v2 : valOf (bytesOf (padN 2 (wrI (monOf day : Int)))) = (monOf day : Int) := by rw [wrI_pos (by omega), val_pad _ _ (by omega)]; omega
  have v3 : valOf (bytesOf (padN 2 (wrI (domOf day)))) = domOf day := by rw [wrI_pos (by omega), val_pad _ _ (by omega)]; omega
  have hd := day_ok h1 h2
  unfold unstamp stampL
  generalize hA : padN 4 (wrI (yearOf day)) = A at *
  generalize hB : padN 2 (wrI (monOf day : Int)) = B at *
  generalize hC : padN 2 (wrI (domOf day)) = C at *
  have s1 : sub (bytesOf (A ++ (B ++ C))) 0 4 = bytesOf A := by
    unfold sub bytesOf; simp [<- l1]
  have s2 : sub (bytesOf (A ++ (B ++ C))) 4 6 = bytesOf B := by
    unfold sub bytesOf
    have : (A ++ (B ++ C)).drop 4 = B ++ C := by rw [<- l1]; exact List.drop_left
    simp only [this]
    congr 2
    rw [show (6 - 4 : Nat) = B.length by omega]; exact List.take_left
  have s3 : sub (bytesOf (A ++ (B ++ C))) 6 8 = bytesOf C := by
    unfold sub bytesOf
    have : (A ++ (B ++ C)).drop 6 = C := by
      rw [<- List.append_assoc, show (6 : Nat) = (A ++ B).length by simp; omega]; exact List.drop_left
    simp only [this]
    congr 2
    rw [show (8 - 6 : Nat) = C.length by omega]; exact List.take_length
  have hlen : (bytesOf (A ++ (B ++ C))).data.toList.length = 8 := by simp [bytesOf]; omega
  have hall : (bytesOf (A ++ (B ++ C))).data.toList.all digB = true := by simp only [bytesOf, List.toList_toArray, List.all_append, a1, a2, a3]; rfl
  rw [if_pos (by simp only [hlen, hall]; decide), s1, s2, s3, v1, v2, v3, hd]
  rfl
theorem prim_cst {v : Vl} (h : constB v = true) {t : Tk} (ht : cstTk v = [t]) (r : List Tk) (f : Nat) : pPrim (f + 1) (t :: r, false) = some (.cst v, (r, false)) := by
  obtain ⟨t', e, g, ha, he⟩ := cstTk_one h
  rw [ht] at e; cases e
  obtain ⟨k, n, s⟩ := v
  unfold cstTk at ht
  rw [if_neg (by simp [he])] at ht
  unfold constB at h
  simp only at ht h
  have am : isSg (t :: r, false) 0 sAmp = false := by rw [isSg_cons]; exact decide_eq_false ha
  by_cases k0 : k = 0
  · subst k0
    simp at ht h
    obtain ⟨rfl, rfl⟩ := h
    subst ht
    have e2 : sgn prims (S sNull :: r, false) = (some sNull, (r, false)) := sgn_same (memB (by decide))
    unfold pPrim
    simp only [am, e2, Bool.false_eq_true, if_false]
    simp [tok_S, Sk, show sNull ≠ sTrue by decide, show sNull ≠ sFalse by decide, Ex.zero, Ex.cst, vd0]
  rw [if_neg k0] at ht h
  by_cases k1 : k = 1
  · subst k1
    simp at ht h
    obtain ⟨h, rfl⟩ := h
    by_cases n0 : n = 0
    · subst n0
      simp at ht
      subst ht
      have e2 : sgn prims (S sFalse :: r, false) = (some sFalse, (r, false)) := sgn_same (memB (by decide))
      unfold pPrim
      simp only [am, e2, Bool.false_eq_true, if_false]
      simp [tok_S, Sk, show sFalse ≠ sTrue by decide]
    · have n1 : n = 1 := by omega
      subst n1
      simp at ht
      subst ht
      have e2 : sgn prims (S sTrue :: r, false) = (some sTrue, (r, false)) := sgn_same (memB (by decide))
      unfold pPrim
      simp only [am, e2, Bool.false_eq_true, if_false]
      simp [tok_S, Sk]
  rw [if_neg k1] at ht h
  by_cases k2 : k = 2
  · subst k2
    simp at ht h
    subst ht
    obtain ⟨⟨h1, h2⟩, rfl⟩ := h
    have hv : valOf (bytesOf (wrI n)) = n := by rw [wrI_pos h1, val_wr _ (by omega)]; omega
    unfold pPrim
    simp [tok, hv, next]
  rw [if_neg k2] at ht h
  by_cases k3 : k = 3
  · subst k3
    simp at ht h
    subst ht
    obtain ⟨⟨h1, h2⟩, rfl⟩ := h
    have hv : unstamp (if n = 0 then ByteArray.empty else bytesOf (stampL n)) = n := by
      split
      · rename_i e; subst e; decide
      · exact unstamp_stamp (by omega) h2
    unfold pPrim
    simp [tok, hv, next]
  rw [if_neg k3] at ht h
  simp at ht h
  subst ht
  obtain ⟨⟨⟨rfl, rfl⟩, h1⟩, h2⟩ := h
  unfold pPrim
  simp [tok, h1, next]
theorem prim_W {s : ByteArray} {q : List Tk} {x : Ex} {s' : St} {f : Nat} (h : pNamed f (W s :: q, false) = some (x, s')) : pPrim (f + 1) (W s :: q, false) = some (x, s') := by
  unfold pPrim
  simp [tok, W] at *
  exact h
theorem prim_S {c : ByteArray} (hc0 : (prims.any fun a => decide (a = c)) = true) (h1 : c ≠ sTrue) (h2 : c ≠ sFalse) (h3 : c ≠ sNull) (q : List Tk) (f : Nat) :
    pPrim (f + 1) (S c :: q, false) = if c = sLp then (pExpr f (q, false)).bind fun r => some (r.1, want sRp r.2) else if c = sLc then pBraces f (q, false) else some (.mk 10 (rname (q, false)).1 vd0 [] [], (rname (q, false)).2) := by
  have hc := memB hc0
  have am : isSg (S c :: q, false) 0 sAmp = false := by
    rw [isSg_cons]
    refine decide_eq_false fun e => ?_
    have := S_inj e; subst this; exact absurd hc0 (by decide)
  have e2 : sgn prims (S c :: q, false) = (some c, (q, false)) := sgn_same hc
  unfold pPrim
  simp only [am, e2, Bool.false_eq_true, if_false]
  simp [tok_S, Sk, h1, h2, h3]
theorem prim_amp (q : List Tk) (f : Nat) : pPrim (f + 1) (S sAmp :: q, false) = pMacro f (S sAmp :: q, false) := by
  have am : isSg (S sAmp :: q, false) 0 sAmp = true := by rw [isSg_cons]; decide
  unfold pPrim
  simp only [am, Bool.false_eq_true, if_false, if_true]
  simp [tok_S, Sk]
theorem W_ne (s c : ByteArray) : W s ≠ S c := by simp [W, S]
theorem rt_all : ∀ n x, wt x <= n -> isEx x = true -> UOk x /\ EOk x 20
  | 0, x, h, _ => by have := wt_pos x; omega
  | n + 1, x, hn, hx => by
    have IU : ∀ y, wt y <= n -> isEx y = true -> UOk y := fun y h1 h2 => (rt_all n y h1 h2).1
    have IE : ∀ y, wt y <= n -> isEx y = true -> EOk y 20 := fun y h1 h2 => (rt_all n y h1 h2).2
    have fin : ∀ {y : Ex}, isEx y = true -> y.op ≠ 4 -> y.op ≠ 5 -> UOk y -> UOk y /\ EOk y 20 := fun {y} hy h4 h5 hu => ⟨hu, E_of_U h4 h5 (fun r => by have := opd_noNot hy r; rwa [opd_ne h4 h5] at this) hu⟩
    have fin2 : ∀ {y : Ex}, (y.op = 4 \/ y.op = 5) -> EOk y (-60) -> UOk y /\ EOk y 20 := fun h45 he => ⟨U_of_E h45 he, fun r f hr hf => he r f hr (by omega)⟩
    cases sh_of hx with
    | cst v hv =>
      obtain ⟨t, e, g, _⟩ := cstTk_one hv
      refine fin hx (by simp [Ex.cst, Ex.op]) (by simp [Ex.cst, Ex.op]) (U_of_prim (t := t) (q := []) (by simp [Ex.cst, Ex.op]) (by simp [Ex.cst, Ex.op]) (by simp [Ex.cst, tks, e]) g.2.2.1 ?_)
      intro r f hr hf
      have hw : wt (.cst v) = 1 := by simp [Ex.cst, wt, wtL]
      obtain ⟨f, rfl⟩ : ∃ k, f = k + 1 := ⟨f - 1, by omega⟩
      exact prim_cst hv e r f
    | nam s hs =>
      refine fin hx (by simp [Ex.nam, Ex.op]) (by simp [Ex.nam, Ex.op]) (U_of_prim (t := W s) (q := []) (by simp [Ex.nam, Ex.op]) (by simp [Ex.nam, Ex.op]) (tks_nam s) (W_ne _ _) ?_)
      intro r f hr hf
      have hw : wt (.nam s) = 1 := by simp [Ex.nam, wt, wtL]
      obtain ⟨f, rfl⟩ : ∃ k, f = k + 2 := ⟨f - 2, by omega⟩
      show pPrim (f + 2) (W s :: r, false) = some (Ex.nam s, (r, false))
      refine prim_W ?_
      unfold pNamed
      simp only [fol_lp hr, rname_W hs, fol_arrow hr]
      simp
    | ref s hs =>
      refine fin hx (by simp [Ex.op]) (by simp [Ex.op]) (U_of_prim (t := S sAt) (q := [W s]) (by simp [Ex.op]) (by simp [Ex.op]) (tks_ref s) (by decide) ?_)
      intro r f hr hf
      have hw : wt (.mk 10 s vd0 [] []) = 1 := by simp [wt, wtL]
      obtain ⟨f, rfl⟩ : ∃ k, f = k + 1 := ⟨f - 1, by omega⟩
      rw [List.cons_append, prim_S (by decide) (by decide) (by decide) (by decide), if_neg (by decide), if_neg (by decide)]
      simp [rname_W hs]
    | ali s a hs ha =>
      have wa := wt_pos a
      have hw : wt (.mk 2 s vd0 [] [a]) = 1 + wt a := by simp [wt, wtL]
      have EA := IE a (by omega) ha
      by_cases ho : a.op = 1
      · obtain ⟨s', rfl, hs'⟩ : ∃ s', a = .nam s' /\ nameB s' = true := by
          cases sh_of ha <;> simp_all [Ex.op, Ex.cst, Ex.nam, Ex.un, Ex.bin]
        refine fin hx (by simp [Ex.op]) (by simp [Ex.op]) (U_of_prim (t := W s) (q := [S sArrow, W s']) (by simp [Ex.op]) (by simp [Ex.op]) (by rw [tks_ali]; simp [Ex.nam, Ex.op, Ex.s]) (W_ne _ _) ?_)
        intro r f hr hf
        obtain ⟨f, rfl⟩ : ∃ k, f = k + 2 := ⟨f - 2, by omega⟩
        show pPrim (f + 2) (W s :: S sArrow :: W s' :: r, false) = _
        refine prim_W ?_
        unfold pNamed
        have e1 : isSg (W s :: S sArrow :: W s' :: r, false) 1 sLp = false := by simp [isSg, tok, S]; try decide
        simp only [List.cons_append, List.nil_append, e1, rname_W hs, take_same, take_ne _ (W_ne s' sLp), rname_W hs']
        simp
      · refine fin hx (by simp [Ex.op]) (by simp [Ex.op]) (U_of_prim (t := W s) (q := S sArrow :: S sLp :: (tks a ++ [S sRp])) (by simp [Ex.op]) (by simp [Ex.op]) (by rw [tks_ali, if_neg ho]) (W_ne _ _) ?_)
        intro r f hr hf
        obtain ⟨f, rfl⟩ : ∃ k, f = k + 2 := ⟨f - 2, by omega⟩
        rw [List.cons_append, List.cons_append, List.cons_append, List.append_assoc, List.singleton_append]
        refine prim_W ?_
        have h1 := EA (S sRp :: r) f (stop_rp r) (by omega)
        unfold pNamed
        have e1 : isSg (W s :: S sArrow :: S sLp :: (tks a ++ S sRp :: r), false) 1 sLp = false := by simp [isSg, tok, S]; try decide
        simp only [List.cons_append, List.append_assoc, List.nil_append, e1, rname_W hs, take_same, h1]
        simp [want_same]
    | call s l hs hl =>
      have hw : wt (.mk 3 s vd0 [] l) = 1 + wtL l := by simp [wt]
      refine fin hx (by simp [Ex.op]) (by simp [Ex.op]) (U_of_prim (t := W s) (q := S sLp :: (tksL l ++ [S sRp])) (by simp [Ex.op]) (by simp [Ex.op]) (tks_call s l) (W_ne _ _) ?_)
      intro r f hr hf
      obtain ⟨f, rfl⟩ : ∃ k, f = k + 3 := ⟨f - 3, by omega⟩
      rw [List.cons_append, List.cons_append, List.append_assoc, List.singleton_append]
      refine prim_W ?_
      unfold pNamed
      have e1 : isSg (W s :: S sLp :: (tksL l ++ S sRp :: r), false) 1 sLp = true := by simp [isSg, tok, S]
      simp only [List.cons_append, List.append_assoc, List.nil_append, e1, rname_W hs, want_same, if_true]
      cases l with
      | nil => simp [pClosed, tksL, take_same]
      | cons y m =>
        obtain ⟨t, q, e, hne, _⟩ := head_tks (allEx_mem hl (List.mem_cons_self))
        have hp := pList_rt y m f sRp r (fun z hz => IE z (by have := wt_mem hz; omega) (allEx_mem hl hz)) (stop_rp r) (by decide) (by omega)
        have e3 : take sRp (tksL (y :: m) ++ S sRp :: r, false) = (false, (tksL (y :: m) ++ S sRp :: r, false)) := by
          rw [tksL_cons, e]; exact take_ne _ hne
        unfold pClosed
        simp [e3, hp, want_same]
    | neg a ha => exact fin2 (.inl rfl) (E_neg (IU a (by simp [Ex.un, wt, wtL] at hn; omega) ha) rfl)
    | not a ha => exact fin2 (.inl rfl) (E_not (IU a (by simp [Ex.un, wt, wtL] at hn; omega) ha) (opd_noNot ha) rfl)
    | bin c a b hc ha hb =>
      have hw : wt (.bin c a b) = 1 + (wt a + wt b) := by simp [Ex.bin, wt, wtL]
      exact fin2 (.inr rfl) (E_bin hc (IU a (by omega) ha) (IU b (by omega) hb) (opd_noNot ha) (opd_noNot hb) rfl)
    | idx a b ha hb =>
      have hw : wt (.mk 6 ByteArray.empty vd0 [] [a, b]) = 1 + (wt a + wt b) := by simp [wt, wtL]
      have UA := IU a (by omega) ha
      have EB := IE b (by omega) hb
      refine fin hx (by simp [Ex.op]) (by simp [Ex.op]) ?_
      intro r k f hr hf
      have e : opd (.mk 6 ByteArray.empty vd0 [] [a, b]) (tks (.mk 6 ByteArray.empty vd0 [] [a, b])) = opd a (tks a) ++ S sLb :: (tks b ++ [S sRb]) := by rw [opd_ne (by simp [Ex.op]) (by simp [Ex.op]), tks_idx]
      obtain ⟨g, hg, e2⟩ := UA (S sLb :: (tks b ++ S sRb :: r)) (k + 100 * wt b + 22) f (fol_op _ (by decide) (by decide)) (by omega)
      obtain ⟨g, rfl⟩ : ∃ j, g = j + 1 := ⟨g - 1, by omega⟩
      refine ⟨g, by omega, ?_⟩
      have h1 := EB (S sRb :: r) g (stop_rb r) (by omega)
      rw [e]
      simp only [List.append_assoc, List.cons_append, List.nil_append]
      rw [e2]
      rw [show lIdx (g + 1) a (S sLb :: (tks b ++ S sRb :: r), false) = (pExpr g (tks b ++ S sRb :: r, false)).bind fun r => lIdx g (.mk 6 ByteArray.empty vd0 [] [a, r.1]) (want sRb r.2) by simp [lIdx, take_same]]
      rw [h1]
      simp [want_same]
    | list l hl0 hl =>
      have hw : wt (.mk 7 ByteArray.empty vd0 [] l) = 1 + wtL l := by simp [wt]
      refine fin hx (by simp [Ex.op]) (by simp [Ex.op]) (U_of_prim (t := S sLc) (q := tksL l ++ [S sRc]) (by simp [Ex.op]) (by simp [Ex.op]) (tks_list l) (by decide) ?_)
      intro r f hr hf
      cases l with
      | nil => exact absurd rfl hl0
      | cons y m =>
        obtain ⟨f, rfl⟩ : ∃ k, f = k + 2 := ⟨f - 2, by omega⟩
        obtain ⟨t, q, e, _, hne⟩ := head_tks (allEx_mem hl (List.mem_cons_self))
        have hp := pList_rt y m f sRc r (fun z hz => IE z (by have := wt_mem hz; omega) (allEx_mem hl hz)) (stop_rc r) (by decide) (by omega)
        rw [List.cons_append, prim_S (by decide) (by decide) (by decide) (by decide), if_neg (by decide), if_pos rfl, List.append_assoc, List.singleton_append]
        have e3 : take sBar (tksL (y :: m) ++ S sRc :: r, false) = (false, (tksL (y :: m) ++ S sRc :: r, false)) := by
          rw [tksL_cons, e]; exact take_ne _ hne
        unfold pBraces
        simp [e3, hp, want_same]
    | block p a hp ha =>
      have wa := wt_pos a
      have hw : wt (.mk 8 ByteArray.empty vd0 p [a]) = 1 + p.length + wt a := by simp [wt, wtL]
      have EA := IE a (by omega) ha
      refine fin hx (by simp [Ex.op]) (by simp [Ex.op]) (U_of_prim (t := S sLc) (q := S sBar :: (nmTks p ++ S sBar :: (tks a ++ [S sRc]))) (by simp [Ex.op]) (by simp [Ex.op]) (tks_block p a) (by decide) ?_)
      intro r f hr hf
      obtain ⟨f, rfl⟩ : ∃ k, f = k + 2 := ⟨f - 2, by omega⟩
      have h1 := EA (S sRc :: r) f (stop_rc r) (by omega)
      rw [List.cons_append, prim_S (by decide) (by decide) (by decide) (by decide), if_neg (by decide), if_pos rfl]
      simp only [List.append_assoc, List.cons_append, List.nil_append]
      unfold pBraces
      cases p with
      | nil =>
        simp only [nmTks, List.nil_append, take_same, if_true, h1]
        simp [want_same]
      | cons b q =>
        have e3 : take sBar (nmTks (b :: q) ++ S sBar :: (tks a ++ S sRc :: r), false) = (false, (nmTks (b :: q) ++ S sBar :: (tks a ++ S sRc :: r), false)) := by
          cases q <;> exact take_ne _ (W_ne _ _)
        have h2 := pNames_rt b q f (tks a ++ S sRc :: r) hp (by simp at hf hw; omega)
        simp only [take_same, if_true, e3, h2]
        simp [want_same, h1]
    | mac s hs =>
      have hw : wt (.mk 9 s vd0 [] []) = 1 := by simp [wt, wtL]
      refine fin hx (by simp [Ex.op]) (by simp [Ex.op]) (U_of_prim (t := S sAmp) (q := [W s, S sDot]) (by simp [Ex.op]) (by simp [Ex.op]) (tks_mac s) (by decide) ?_)
      intro r f hr hf
      obtain ⟨f, rfl⟩ : ∃ k, f = k + 2 := ⟨f - 2, by omega⟩
      rw [List.cons_append, prim_amp]
      unfold pMacro
      simp only [List.cons_append, List.nil_append, want_same, take_ne _ (W_ne s sLp), rname_W hs, take_same]
      simp
    | macx a ha =>
      have wa := wt_pos a
      have hw : wt (.mk 9 ByteArray.empty vd0 [] [a]) = 1 + wt a := by simp [wt, wtL]
      have EA := IE a (by omega) ha
      refine fin hx (by simp [Ex.op]) (by simp [Ex.op]) (U_of_prim (t := S sAmp) (q := S sLp :: (tks a ++ [S sRp])) (by simp [Ex.op]) (by simp [Ex.op]) (tks_macx a) (by decide) ?_)
      intro r f hr hf
      obtain ⟨f, rfl⟩ : ∃ k, f = k + 2 := ⟨f - 2, by omega⟩
      have h1 := EA (S sRp :: r) f (stop_rp r) (by omega)
      rw [List.cons_append, prim_amp]
      unfold pMacro
      simp only [List.cons_append, List.append_assoc, List.nil_append, want_same, take_same, if_true, h1]
      simp [want_same]
theorem okTk_S (c : ByteArray) : okTk (S c) := ⟨fun h => by simp [S] at h, fun h => by simp [S] at h, fun h => by simp [S] at h, fun h => by simp [S] at h⟩
theorem okTk_W {s : ByteArray} (h : nameB s = true) : okTk (W s) := ⟨fun _ => h, fun h => by simp [W] at h, fun h => by simp [W] at h, fun h => by simp [W] at h⟩
theorem okTk_cst {v : Vl} (h : constB v = true) : ∀ t ∈ cstTk v, okTk t := by
  obtain ⟨t', e, g, ha, he⟩ := cstTk_one h
  obtain ⟨k, n, s⟩ := v
  unfold cstTk at *
  rw [if_neg (by simp [he])] at *
  unfold constB at h
  simp only at *
  by_cases k0 : k = 0
  · rw [if_pos k0]; intro t ht; simp at ht; subst ht; exact okTk_S _
  rw [if_neg k0] at *
  by_cases k1 : k = 1
  · rw [if_pos k1]; intro t ht; simp at ht; subst ht; exact okTk_S _
  rw [if_neg k1] at *
  by_cases k2 : k = 2
  · rw [if_pos k2] at *
    intro t ht; simp at ht; subst ht
    simp at h
    refine ⟨fun h => by simp at h, fun _ => ?_, fun h => by simp at h, fun h => by simp at h⟩
    have hv : valOf (bytesOf (wrI n)) = n := by rw [wrI_pos h.1.1, val_wr _ (by omega)]; omega
    simp only [hv]; exact h.1
  rw [if_neg k2] at *
  by_cases k3 : k = 3
  · rw [if_pos k3] at *
    intro t ht; simp at ht; subst ht
    simp at h
    refine ⟨fun h => by simp at h, fun h => by simp at h, fun h => by simp at h, fun _ => ?_⟩
    have hv : unstamp (if n = 0 then ByteArray.empty else bytesOf (stampL n)) = n := by
      split
      · rename_i e; subst e; decide
      · exact unstamp_stamp (by omega) h.1.2
    simp only [hv]; exact h.1
  rw [if_neg k3] at *
  intro t ht; simp at ht; subst ht
  simp at h
  exact ⟨fun h => by simp at h, fun h => by simp at h, fun _ => h.2, fun h => by simp at h⟩
theorem okTk_nm : ∀ {p : List ByteArray}, p.all nameB = true -> ∀ t ∈ nmTks p, okTk t
  | [], _, t, ht => by simp [nmTks] at ht
  | [a], h, t, ht => by simp [nmTks] at ht; subst ht; simp at h; exact okTk_W h
  | a :: b :: r, h, t, ht => by
    simp only [List.all_cons, Bool.and_eq_true] at h
    simp only [nmTks, List.mem_cons] at ht
    rcases ht with rfl | rfl | ht
    · exact okTk_W h.1
    · exact okTk_S _
    · exact okTk_nm (p := b :: r) (by simp [h.2]) t ht
theorem ok_opd {x : Ex} {l : List Tk} (h : ∀ t ∈ l, okTk t) : ∀ t ∈ opd x l, okTk t := by
  unfold opd
  split
  · intro t ht
    simp only [List.mem_cons, List.mem_append, List.mem_nil_iff, or_false] at ht
    rcases ht with rfl | ht | rfl
    · exact okTk_S _
    · exact h t ht
    · exact okTk_S _
  · exact h
mutual
theorem ok_tks : ∀ x : Ex, bad x = false -> ∀ t ∈ tks x, okTk t
  | .mk op s v p l, h, t, ht => by
    unfold bad at h
    unfold tks at ht
    by_cases e0 : op = 0
    · rw [if_pos e0] at h ht; exact okTk_cst (by simpa using h) t ht
    rw [if_neg e0] at h ht
    by_cases e1 : op = 1
    · rw [if_pos e1] at ht; rw [if_pos (by simp [e1])] at h
      simp at ht; subst ht; exact okTk_W (by simpa using h)
    rw [if_neg e1] at ht
    by_cases e10 : op = 10
    · rw [if_pos (by simp [e10])] at h
      subst e10
      simp at ht h
      rcases ht with rfl | rfl
      · exact okTk_S _
      · exact okTk_W h
    rw [if_neg (by simp [e1, e10])] at h
    by_cases e2 : op = 2
    · rw [if_pos e2] at h ht
      match l, h, ht with
      | [], h, ht => simp at ht
      | [a], h, ht =>
        simp only [Bool.or_eq_false_iff, Bool.not_eq_false'] at h
        simp only [List.mem_cons] at ht
        rcases ht with rfl | rfl | ht
        · exact okTk_W h.1
        · exact okTk_S _
        · by_cases ho : a.op = 1
          · rw [if_pos ho] at ht h
            simp at ht; subst ht
            exact okTk_W (by simpa using h.2)
          · rw [if_neg ho] at ht h
            simp only [List.mem_cons, List.mem_append, List.mem_nil_iff, or_false] at ht
            rcases ht with rfl | ht | rfl
            · exact okTk_S _
            · exact ok_tks a h.2 t ht
            · exact okTk_S _
      | a :: b :: r, h, ht => simp at ht
    rw [if_neg e2] at h ht
    by_cases e3 : op = 3
    · rw [if_pos e3] at h ht
      simp only [Bool.or_eq_false_iff, Bool.not_eq_false'] at h
      simp only [List.mem_cons, List.mem_append, List.mem_nil_iff, or_false] at ht
      rcases ht with rfl | rfl | ht | rfl
      · exact okTk_W h.1
      · exact okTk_S _
      · exact ok_tksL l h.2 t ht
      · exact okTk_S _
    rw [if_neg e3] at h ht
    by_cases e4 : op = 4
    · rw [if_pos e4] at h ht
      match l, h, ht with
      | [], h, ht => simp at ht
      | [a], h, ht =>
        simp only [List.mem_cons] at ht
        rcases ht with rfl | ht
        · exact okTk_S _
        · exact ok_opd (ok_tks a h) t ht
      | a :: b :: r, h, ht => simp at ht
    rw [if_neg e4] at h ht
    by_cases e5 : op = 5
    · rw [if_pos e5] at ht; rw [if_pos (by simp [e5])] at h
      match l, h, ht with
      | [], h, ht => simp at ht
      | [a], h, ht => simp at ht
      | [a, b], h, ht =>
        simp only [Bool.or_eq_false_iff] at h
        simp only [List.mem_append, List.mem_cons] at ht
        rcases ht with ht | rfl | ht
        · exact ok_opd (ok_tks a h.1) t ht
        · exact okTk_S _
        · exact ok_opd (ok_tks b h.2) t ht
      | a :: b :: c :: r, h, ht => simp at ht
    rw [if_neg e5] at ht
    by_cases e6 : op = 6
    · rw [if_pos e6] at ht; rw [if_pos (by simp [e6])] at h
      match l, h, ht with
      | [], h, ht => simp at ht
      | [a], h, ht => simp at ht
      | [a, b], h, ht =>
        simp only [Bool.or_eq_false_iff] at h
        simp only [List.mem_append, List.mem_cons, List.mem_nil_iff, or_false] at ht
        rcases ht with ht | rfl | ht | rfl
        · exact ok_opd (ok_tks a h.1) t ht
        · exact okTk_S _
        · exact ok_tks b h.2 t ht
        · exact okTk_S _
      | a :: b :: c :: r, h, ht => simp at ht
    rw [if_neg e6] at ht
    rw [if_neg (by simp [e5, e6])] at h
    by_cases e7 : op = 7
    · rw [if_pos e7] at h ht
      simp only [List.mem_cons, List.mem_append, List.mem_nil_iff, or_false] at ht
      rcases ht with rfl | ht | rfl
      · exact okTk_S _
      · exact ok_tksL l h t ht
      · exact okTk_S _
    rw [if_neg e7] at h ht
    by_cases e8 : op = 8
    · rw [if_pos e8] at h ht
      match l, h, ht with
      | [], h, ht => simp at ht
      | [a], h, ht =>
        simp only [Bool.or_eq_false_iff, Bool.not_eq_false'] at h
        simp only [List.mem_cons, List.mem_append, List.mem_nil_iff, or_false] at ht
        rcases ht with rfl | rfl | ht | rfl | ht | rfl
        · exact okTk_S _
        · exact okTk_S _
        · exact okTk_nm h.1 t ht
        · exact okTk_S _
        · exact ok_tks a h.2 t ht
        · exact okTk_S _
      | a :: b :: r, h, ht => simp at ht
    rw [if_neg e8] at h ht
    by_cases e9 : op = 9
    · rw [if_pos e9] at h ht
      match l, h, ht with
      | [], h, ht =>
        simp at h
        simp only [List.mem_cons, List.mem_nil_iff, or_false] at ht
        rcases ht with rfl | rfl | rfl
        · exact okTk_S _
        · exact okTk_W h
        · exact okTk_S _
      | [a], h, ht =>
        simp only [List.mem_cons, List.mem_append, List.mem_nil_iff, or_false] at ht
        rcases ht with rfl | rfl | ht | rfl
        · exact okTk_S _
        · exact okTk_S _
        · exact ok_tks a h t ht
        · exact okTk_S _
      | a :: b :: r, h, ht =>
        simp at h
        simp only [List.mem_cons, List.mem_nil_iff, or_false] at ht
        rcases ht with rfl | rfl | rfl
        · exact okTk_S _
        · exact okTk_W h
        · exact okTk_S _
    · rw [if_neg e9] at h; cases h
theorem ok_tksL : ∀ l : List Ex, badL l = false -> ∀ t ∈ tksL l, okTk t
  | [], _, t, ht => by simp [tksL] at ht
  | x :: r, h, t, ht => by
    simp only [badL, Bool.or_eq_false_iff] at h
    rw [tksL_cons] at ht
    simp only [List.mem_append] at ht
    rcases ht with ht | ht
    · exact ok_tks x h.1 t ht
    · cases r with
      | nil => simp [moreL] at ht
      | cons y m =>
        simp only [moreL, List.mem_cons] at ht
        rcases ht with rfl | ht
        · exact okTk_S _
        · exact ok_tksL (y :: m) h.2 t ht
end
theorem badL_of : ∀ {l : List Ex}, (∀ x ∈ l, bad x = false) -> badL l = false
  | [], _ => rfl
  | x :: r, h => by simp only [badL, h x (by simp), Bool.false_or]; exact badL_of fun y hy => h y (by simp [hy])
theorem not_bad : ∀ n x, wt x <= n -> isEx x = true -> bad x = false
  | 0, x, h, _ => by have := wt_pos x; omega
  | n + 1, x, hn, hx => by
    cases sh_of hx with
    | cst v hv => unfold Ex.cst bad; simp [hv]
    | nam s hs => unfold Ex.nam bad; simp [hs]
    | ref s hs => unfold bad; simp [hs]
    | ali s a hs ha =>
      have := not_bad n a (by simp [wt, wtL] at hn; omega) ha
      by_cases ho : a.op = 1
      · have hn : nameB a.s = true := by cases sh_of ha <;> simp_all [Ex.op, Ex.cst, Ex.nam, Ex.un, Ex.bin, Ex.s]
        unfold bad; simp [hs, ho, hn]
      · unfold bad; simp [hs, ho, this]
    | call s l hs hl =>
      have := badL_of (l := l) fun y hy => not_bad n y (by have := wt_mem hy; simp [wt] at hn; omega) (allEx_mem hl hy)
      unfold bad; simp [hs, this]
    | neg a ha => have := not_bad n a (by simp [Ex.un, wt, wtL] at hn; omega) ha; simp [Ex.un, bad, this]
    | not a ha => have := not_bad n a (by simp [Ex.un, wt, wtL] at hn; omega) ha; simp [Ex.un, bad, this]
    | bin c a b hc ha hb =>
      have h1 := not_bad n a (by simp [Ex.bin, wt, wtL] at hn; omega) ha
      have h2 := not_bad n b (by simp [Ex.bin, wt, wtL] at hn; omega) hb
      simp [Ex.bin, bad, h1, h2]
    | idx a b ha hb =>
      have h1 := not_bad n a (by simp [wt, wtL] at hn; omega) ha
      have h2 := not_bad n b (by simp [wt, wtL] at hn; omega) hb
      simp [bad, h1, h2]
    | list l hn0 hl =>
      have := badL_of (l := l) fun y hy => not_bad n y (by have := wt_mem hy; simp [wt] at hn; omega) (allEx_mem hl hy)
      unfold bad; simp [this]
    | block p a hp ha =>
      have h1 := not_bad n a (by simp [wt, wtL] at hn; omega) ha
      unfold bad; simp only [h1]; simpa using hp
    | mac s hs => unfold bad; simp [hs]
    | macx a ha =>
      have h1 := not_bad n a (by simp [wt, wtL] at hn; omega) ha
      simp [bad, h1]
mutual
def sameEx : Ex -> Ex -> Bool
  | .mk op s v p l, .mk op' s' v' p' l' => decide (op = op') && decide (s = s') && decide (v = v') && decide (p = p') && sameExs l l'
def sameExs : List Ex -> List Ex -> Bool
  | [], [] => true
  | x :: r, y :: q => sameEx x y && sameExs r q
  | _, _ => false
end
mutual
theorem sameEx_iff : ∀ x y : Ex, sameEx x y = true -> x = y
  | .mk op s v p l, .mk op' s' v' p' l', h => by
    simp only [sameEx, Bool.and_eq_true, decide_eq_true_eq] at h
    obtain ⟨⟨⟨⟨rfl, rfl⟩, rfl⟩, rfl⟩, h⟩ := h
    rw [sameExs_iff l l' h]
theorem sameExs_iff : ∀ l m : List Ex, sameExs l m = true -> l = m
  | [], [], _ => rfl
  | x :: r, y :: q, h => by
    simp only [sameExs, Bool.and_eq_true] at h
    rw [sameEx_iff x y h.1, sameExs_iff r q h.2]
  | [], y :: q, h => by simp [sameExs] at h
  | x :: r, [], h => by simp [sameExs] at h
end
mutual
theorem sameEx_refl : ∀ x : Ex, sameEx x x = true
  | .mk op s v p l => by simp [sameEx, sameExs_refl l]
theorem sameExs_refl : ∀ l : List Ex, sameExs l l = true
  | [] => by simp [sameExs]
  | x :: r => by simp [sameExs, sameEx_refl x, sameExs_refl r]
end
def again (x y : Ex) (s : St) : Int := if bad x then 1 else if s.2 || !s.1.isEmpty || !sameEx x y then 1 else 0
def fuelOf (t : List Tk) (x : Ex) : Nat := 20 * t.length + 100 * wt x + 40
theorem law_read (x : Ex) : ∃ y s, pExpr (fuelOf (tks x) x) (tks x, false) = some (y, s) /\ again x y s = if isEx x then 0 else 1 := by
  obtain ⟨⟨y, s⟩, h⟩ := (toA (fuelOf (tks x) x)).ex (tks x, false) (by simp [ms, fuelOf]; omega)
  refine ⟨y, s, h, ?_⟩
  by_cases hx : isEx x = true
  · have h2 := (rt_all _ x (Nat.le_refl _) hx).2 [] (fuelOf (tks x) x) stop_nil (by unfold fuelOf; omega)
    rw [List.append_nil, h] at h2
    cases h2
    simp [again, hx, not_bad _ x (Nat.le_refl _) hx, sameEx_refl]
  · rw [if_neg hx]
    unfold again
    by_cases hb : bad x = true
    · rw [if_pos hb]
    rw [if_neg hb]
    by_cases hs : s.2 = true
    · simp [hs]
    by_cases he : sameEx x y = true
    · exfalso
      have := sameEx_iff _ _ he
      subst this
      exact hx ((snA _).ex _ _ h (fun t ht => ok_tks x (by simpa using hb) t ht) (by simpa using hs))
    · simp [he]
end Go.Proofs.YtdmepghoffhphaaGreatDoor
