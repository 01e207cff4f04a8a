/- What the number patterns' reader, checker and printer compute, as plain functions on lists of bytes: no program in sight. -/
set_option linter.unusedVariables false
namespace Go.Proofs.YtjpdakepfmepnaaDoor.Pat

/-- A piece of an affix. -/
structure Aff where
  kind : Int
  text : List UInt8
  n : Int
deriving DecidableEq

/-- A number pattern. -/
structure Pat where
  pre : List Aff
  suf : List Aff
  neg : Bool
  npre : List Aff
  nsuf : List Aff
  minInt : Int
  minFrac : Int
  maxFrac : Int
  minSig : Int
  maxSig : Int
  group : Int
  second : Int
  sNeg : Bool
  sInt : List UInt8
  sFrac : List UInt8
  exp : Int
  expPlus : Bool
deriving DecidableEq

def Pat.zero : Pat := ⟨[], [], false, [], [], 0, 0, 0, 0, 0, 0, 0, false, [], [], 0, false⟩

def digit (c : UInt8) : Bool := 48 ≤ c && c ≤ 57
def permille : List UInt8 := [226, 128, 176]
def money : List UInt8 := [194, 164]
/-- What ends an affix. -/
def stop (c : UInt8) : Bool := digit c || c == 35 || c == 44 || c == 46 || c == 64 || c == 42 || c == 59

/-! #### quoted text -/
def quoteB : List UInt8 → List UInt8 → Option (List UInt8 × List UInt8)
  | _, [] => none
  | acc, [c] => if c = 39 then some (acc, []) else none
  | acc, c :: d :: r => if c = 39 then (if d = 39 then quoteB (acc ++ [39]) r else some (acc, d :: r)) else quoteB (acc ++ [c]) (d :: r)
/-- What begins with an apostrophe: its text and what stands behind it. -/
def quoteS (s : List UInt8) : Option (List UInt8 × List UInt8) :=
  if [39, 39].isPrefixOf s then some ([39], s.drop 2) else quoteB [] (s.drop 1)

theorem quoteB_len : ∀ (acc s t r : List UInt8), quoteB acc s = some (t, r) → r.length < s.length
  | _, [], _, _, h => by simp [quoteB] at h
  | acc, [c], t, r, h => by
    unfold quoteB at h
    split at h
    · simp at h; simp [← h.2]
    · cases h
  | acc, c :: d :: q, t, r, h => by
    unfold quoteB at h
    split at h
    · split at h
      · have := quoteB_len (acc ++ [39]) q t r h; simp; omega
      · simp at h; simp [← h.2]
    · have := quoteB_len (acc ++ [c]) (d :: q) t r h; simp at this ⊢; omega
theorem quoteS_len {s t r : List UInt8} (h : quoteS s = some (t, r)) (hs : s ≠ []) : r.length < s.length := by
  unfold quoteS at h
  cases s with
  | nil => exact absurd rfl hs
  | cons c q =>
    split at h
    · simp at h; rw [← h.2]; simp; omega
    · have := quoteB_len _ _ _ _ h; simp at this ⊢; omega

/-! #### affixes -/
def addS (l : List Aff) (a : Aff) : List Aff :=
  match l.getLast? with
  | none => l ++ [a]
  | some b => if b.kind = a.kind then (if a.kind = 1 then l.dropLast ++ [⟨b.kind, b.text ++ a.text, b.n⟩] else if a.kind = 6 then l.dropLast ++ [⟨b.kind, b.text, b.n + a.n⟩] else l ++ [a]) else l ++ [a]
def lastN (l : List Aff) : Int := match l.getLast? with
  | none => 0
  | some b => b.n
/-- A sign at a text's begin, and its length. -/
def signS (s : List UInt8) : Option (Aff × Nat) :=
  if [45].isPrefixOf s then some (⟨2, [], 0⟩, 1) else if [43].isPrefixOf s then some (⟨3, [], 0⟩, 1) else if [37].isPrefixOf s then some (⟨4, [], 0⟩, 1) else if permille.isPrefixOf s then some (⟨5, [], 0⟩, 3) else if money.isPrefixOf s then some (⟨6, [], 1⟩, 2) else none
theorem signS_pos {s : List UInt8} {a : Aff} {n : Nat} (h : signS s = some (a, n)) : 0 < n := by
  unfold signS at h
  repeat' split at h
  all_goals (first | (simp at h; omega) | cases h)
theorem signS_ne {s : List UInt8} {a : Aff} {n : Nat} (h : signS s = some (a, n)) : s ≠ [] := by
  rintro rfl
  simp [signS, permille, money] at h

/-- Pieces from a text's begin on, behind those of l: all of them and what stands behind; none: something can't stand there. -/
def affS (s : List UInt8) (l : List Aff) : Option (List Aff × List UInt8) :=
  match s with
  | [] => some (l, [])
  | c :: r =>
    if c = 39 then
      match h : quoteS (c :: r) with
      | none => none
      | some (t, q) => affS q (addS l ⟨1, t, 0⟩)
    else match h : signS (c :: r) with
      | some (a, n) => if lastN (addS l a) > 3 then none else affS ((c :: r).drop n) (addS l a)
      | none => if stop c then some (l, c :: r) else affS r (addS l ⟨1, [c], 0⟩)
termination_by s.length
decreasing_by
  · exact quoteS_len h (by simp)
  · have := signS_pos h; simp; omega
  · simp

/-! #### the number -/
def mark (c : UInt8) : Bool := c == 35 || c == 64 || digit c
/-- 0: #; 1: digits; 2: @; 3: # behind @. -/
def stepSt (st : Nat) (c : UInt8) : Option Nat :=
  if c = 35 then (if st = 0 then some 0 else if 2 ≤ st then some 3 else none)
  else if c = 64 then (if st = 0 ∨ st = 2 then some 2 else none)
  else if digit c then (if st ≤ 1 then some 1 else none) else none
/-- The marks and commas that stand at a text's begin; pc: a comma can't stand there. -/
def headS : Bool → Nat → List UInt8 → Option (List UInt8 × Nat × List UInt8)
  | _, st, [] => some ([], st, [])
  | pc, st, c :: r =>
    if c = 44 then (if pc then none else (headS true st r).map fun x => (c :: x.1, x.2))
    else if mark c then (match stepSt st c with
      | none => none
      | some st' => (headS false st' r).map fun x => (c :: x.1, x.2))
    else some ([], st, c :: r)

def marks (h : List UInt8) : List UInt8 := h.filter (· != 44)
/-- What stands between the commas. -/
def splitL : List UInt8 → List (List UInt8)
  | [] => [[]]
  | c :: r => if c = 44 then [] :: splitL r else match splitL r with
    | [] => [[c]]
    | p :: q => (c :: p) :: q
def groupsP : List (List UInt8) → Nat × Nat
  | [] => (0, 0)
  | [_] => (0, 0)
  | a :: b :: q => if q = [] ∨ b.length = a.length then (a.length, 0) else (a.length, b.length)
/-- The sizes of the last group and of the one ahead (0: the same). -/
def groupsS (h : List UInt8) : Nat × Nat := groupsP (splitL h).reverse
def nonzero (s : List UInt8) : Bool := s.any (· != 48)
def lead (s : List UInt8) : List UInt8 := if s.dropWhile (· == 48) = [] then [48] else s.dropWhile (· == 48)

/-- What is read of a number. -/
structure Num where
  minInt : Nat
  minFrac : Nat
  maxFrac : Nat
  minSig : Nat
  maxSig : Nat
  group : Nat
  second : Nat
  sInt : List UInt8
  sFrac : List UInt8
  exp : Nat
  expPlus : Bool
deriving DecidableEq

/-- The places behind the point: the digits, how many #, what stands behind. -/
def placesS (q : List UInt8) : List UInt8 × Nat × List UInt8 :=
  (q.takeWhile digit, ((q.dropWhile digit).takeWhile (· == 35)).length, (q.dropWhile digit).dropWhile (· == 35))
/-- The places, where a point begins them: the digits, how many #, what stands behind. -/
def fracS (st : Nat) (s : List UInt8) : Option (List UInt8 × Nat × List UInt8) :=
  match s with
  | [] => some ([], 0, [])
  | c :: q =>
    if c = 46 then
      if 2 ≤ st then none
      else
        let x := placesS q
        if x.1 = [] ∧ x.2.1 = 0 then none
        else match x.2.2 with
          | [] => some x
          | d :: _ => if digit d || d == 44 || d == 46 || d == 64 then none else some x
    else some ([], 0, c :: q)
/-- An exponent at a text's begin: has it a plus, how many digits, what stands behind; none: there is none. -/
def expAt (s : List UInt8) : Option (Bool × Nat × List UInt8) :=
  match s with
  | 69 :: 43 :: 48 :: r => some (true, ((48 :: r).takeWhile (· == 48)).length, (48 :: r).dropWhile (· == 48))
  | 69 :: 48 :: r => some (false, ((48 :: r).takeWhile (· == 48)).length, (48 :: r).dropWhile (· == 48))
  | _ => none
def expS (h : List UInt8) (m : Num) (s : List UInt8) : Option (Num × List UInt8) :=
  match expAt s with
  | none => some (m, s)
  | some (plus, n, r) => if h.any (fun c => c == 35 || c == 44 || c == 64) || m.minInt == 0 || m.sInt != [] then none else some ({ m with exp := n, expPlus := plus }, r)
/-- What head and places tell of a number. -/
def numOf (st : Nat) (h places : List UInt8) (sharp : Nat) : Num :=
  { minInt := h.countP digit
    minFrac := places.length
    maxFrac := places.length + sharp
    minSig := h.count 64
    maxSig := ((marks h).dropWhile (· != 64)).length
    group := (groupsS h).1
    second := (groupsS h).2
    sInt := if st < 2 ∧ nonzero ((marks h).dropWhile (· == 35) ++ places) = true then lead ((marks h).dropWhile (· == 35)) else []
    sFrac := if st < 2 ∧ nonzero ((marks h).dropWhile (· == 35) ++ places) = true then places else []
    exp := 0
    expPlus := false }
def point (s : List UInt8) : Bool := s.head? == some 46
/-- A number at a text's begin and what stands behind it; none: something can't stand there. -/
def numS (s : List UInt8) : Option (Num × List UInt8) :=
  match headS true 0 s with
  | none => none
  | some (h, st, r) =>
    if h.getLast? = some 44 ∨ (h = [] ∧ point r = false) then none
    else match fracS st r with
      | none => none
      | some (places, sharp, r2) => expS h (numOf st h places sharp) r2

/-! #### a half, a pattern -/
def endS (s : List UInt8) : Bool := s.isEmpty || s.head? == some 59
def halfS (s : List UInt8) : Option (List Aff × Num × List Aff × List UInt8) :=
  match affS s [] with
  | none => none
  | some (a, r) => match numS r with
    | none => none
    | some (m, r2) => match affS r2 [] with
      | none => none
      | some (b, r3) => if endS r3 then some (a, m, b, r3) else none
def mkPat (a b : List Aff) (neg : Bool) (c d : List Aff) (m : Num) : Pat :=
  ⟨a, b, neg, c, d, m.minInt, m.minFrac, m.maxFrac, m.minSig, m.maxSig, m.group, m.second, false, m.sInt, m.sFrac, m.exp, m.expPlus⟩
/-- The pattern of a text, nothing checked. -/
def rawS (s : List UInt8) : Option Pat :=
  match halfS s with
  | none => none
  | some (a, m, b, r) => match r with
    | [] => some (mkPat a b false [] [] m)
    | _ :: q => match halfS q with
      | none => none
      | some (c, _, d, r2) => if r2 = [] then some (mkPat a b true c d m) else none

/-! #### check -/
def pieceOk (a : Aff) (before : Int) : Bool :=
  if a.kind = 1 then a.text != [] && a.n == 0 && before != a.kind
  else if a.kind = 6 then a.text == [] && decide (1 ≤ a.n) && decide (a.n ≤ 3) && before != a.kind
  else if a.kind = 2 ∨ a.kind = 3 ∨ a.kind = 4 ∨ a.kind = 5 then a.text == [] && a.n == 0
  else false
def piecesOk : Int → List Aff → Bool
  | _, [] => true
  | b, a :: r => pieceOk a b && piecesOk a.kind r
def affErr (l : List Aff) : Int := if 64 < l.length then 5 else if piecesOk 0 l then 0 else 90
def hasKind (l : List Aff) (k : Int) : Bool := l.any fun a => a.kind == k
def hasS (p : Pat) (k : Int) : Bool := hasKind p.pre k || hasKind p.suf k
def decOk (neg : Bool) (i f : List UInt8) : Bool :=
  decide (i.length ≤ 40) && decide (f.length + i.length ≤ 40) && i != [] && i.all digit && f.all digit && !(decide (1 < i.length) && i.head? == some 48) && (!neg || nonzero i || nonzero f)
def noStep (p : Pat) : Bool := p.sNeg == false && p.sInt == [] && p.sFrac == []
def stepOk (p : Pat) : Bool :=
  noStep p || (decOk p.sNeg p.sInt p.sFrac && !p.sNeg && nonzero (p.sInt ++ p.sFrac) && (p.sFrac.length : Int) == p.minFrac && decide (p.minSig ≤ 0) && (p.sInt == [48] || decide ((p.sInt.length : Int) ≤ p.minInt)))
def countErr (l : List Int) : Int := match l with
  | [] => 0
  | n :: r => if n < 0 then 90 else if 40 < n then 3 else countErr r
def restOk (p : Pat) : Bool :=
  decide (p.minFrac ≤ p.maxFrac) && decide (p.minSig ≤ p.maxSig) && (decide (p.minSig = 0) == decide (p.maxSig = 0))
    && !(decide (0 < p.minSig) && (decide (0 < p.minInt) || decide (0 < p.maxFrac)))
    && !(decide (0 < p.second) && (decide (p.group = 0) || decide (p.second = p.group)))
    && stepOk p
    && !(decide (0 < p.exp) && (decide (p.minInt = 0) || decide (0 < p.group) || decide (0 < p.minSig) || !noStep p))
    && !(p.expPlus && decide (p.exp = 0))
def checkS (p : Pat) : Int :=
  if affErr p.pre ≠ 0 then affErr p.pre
  else if affErr p.suf ≠ 0 then affErr p.suf
  else if affErr p.npre ≠ 0 then affErr p.npre
  else if affErr p.nsuf ≠ 0 then affErr p.nsuf
  else if (p.neg = false ∧ 0 < p.npre.length + p.nsuf.length) ∨ (hasS p 4 = true ∧ hasS p 5 = true) then 90
  else if countErr [p.minInt, p.minFrac, p.maxFrac, p.minSig, p.maxSig, p.group, p.second, p.exp] ≠ 0 then countErr [p.minInt, p.minFrac, p.maxFrac, p.minSig, p.maxSig, p.group, p.second, p.exp]
  else if restOk p then 0 else 90
def scaleS (p : Pat) : Int := if hasS p 4 then 2 else if hasS p 5 then 3 else 0

/-- The pattern of a text, or why there is none. -/
def parseS (s : List UInt8) : Pat × Int :=
  if 65536 < s.length then (Pat.zero, 2)
  else match rawS s with
    | none => (Pat.zero, 90)
    | some p => if checkS p = 0 then (p, 0) else (Pat.zero, checkS p)

/-! #### print -/
def signIn : List UInt8 → Bool
  | [] => false
  | c :: r => permille.isPrefixOf (c :: r) || money.isPrefixOf (c :: r) || signIn r
def special (s : List UInt8) : Bool := s.any (fun c => digit c || c == 35 || c == 44 || c == 46 || c == 64 || c == 42 || c == 59 || c == 45 || c == 43 || c == 37 || c == 69) || signIn s
def dbl (s : List UInt8) : List UInt8 := s.flatMap fun c => if c = 39 then [39, 39] else [c]
def textS (s : List UInt8) : List UInt8 := if special s then 39 :: (dbl s ++ [39]) else dbl s
def pieceStr (a : Aff) : List UInt8 :=
  if a.kind = 1 then textS a.text else if a.kind = 2 then [45] else if a.kind = 3 then [43] else if a.kind = 4 then [37] else if a.kind = 5 then permille else (List.replicate a.n.toNat money).flatten
def affStr (l : List Aff) : List UInt8 := l.flatMap pieceStr
def wholeS (p : Pat) : List UInt8 :=
  if 0 < p.minSig then List.replicate p.minSig.toNat 64 ++ List.replicate (p.maxSig - p.minSig).toNat 35
  else
    let s := if noStep p = false ∧ p.sInt ≠ [48] then p.sInt else []
    List.replicate (p.minInt - s.length).toNat 48 ++ s
def leastS (p : Pat) : Int := if 0 < p.second then p.group + p.second + 1 else if 0 < p.group then p.group + 1 else 1
def sharpS (p : Pat) : List UInt8 := List.replicate (leastS p - (wholeS p).length).toNat 35 ++ wholeS p
def commaS (p : Pat) : List UInt8 :=
  let s := sharpS p
  let k := s.length - p.group.toNat
  if 0 < p.group then
    if 0 < p.second then s.take (k - p.second.toNat) ++ (44 :: (s.drop (k - p.second.toNat)).take p.second.toNat) ++ (44 :: s.drop k)
    else s.take k ++ (44 :: s.drop k)
  else s
def fracStr (p : Pat) : List UInt8 :=
  if 0 < p.maxFrac then 46 :: ((if noStep p then List.replicate p.minFrac.toNat 48 else p.sFrac) ++ List.replicate (p.maxFrac - p.minFrac).toNat 35) else []
def expStr (p : Pat) : List UInt8 := if 0 < p.exp then 69 :: ((if p.expPlus then [43] else []) ++ List.replicate p.exp.toNat 48) else []
def numStr (p : Pat) : List UInt8 := commaS p ++ fracStr p ++ expStr p
def printL (p : Pat) : List UInt8 :=
  affStr p.pre ++ numStr p ++ affStr p.suf ++ (if p.neg then 59 :: (affStr p.npre ++ numStr p ++ affStr p.nsuf) else [])
def printS (p : Pat) : List UInt8 × Int :=
  if checkS p ≠ 0 then ([], checkS p) else if 65536 < (printL p).length then ([], 2) else (printL p, 0)
end Go.Proofs.YtjpdakepfmepnaaDoor.Pat
