/- Plain words for questions: trees, the parser as a function of what is left of the text, whether a question may be, sameness, its text. -/
import Derived.Test.YthlnaejmglajeaaDoorMem
import Derived.Lib.Join
namespace Go.Proofs.YthlnaejmglajeaaDoor
open Go.RowKit
set_option linter.unusedVariables false

inductive QT where
  | mk (op n : Int) (kids : List QT)
def QT.op : QT → Int | .mk o _ _ => o
def QT.n : QT → Int | .mk _ n _ => n
def QT.kids : QT → List QT | .mk _ _ k => k
def q0 : QT := .mk 0 0 []

/-- 1 a letter, 2 a digit, 3 a blank, 0 anything else -/
def cls (b : UInt8) : Nat := if 97 ≤ b.toNat ∧ b.toNat ≤ 122 then 1 else if 48 ≤ b.toNat ∧ b.toNat ≤ 57 then 2 else if b.toNat = 32 then 3 else 0
def skipB : List UInt8 → List UInt8
  | [] => []
  | b :: l => if cls b = 3 then skipB l else b :: l
def runLen (c : Nat) : List UInt8 → Nat
  | [] => 0
  | b :: l => if cls b = c then runLen c l + 1 else 0
def tokLen : List UInt8 → Nat
  | [] => 0
  | b :: l => if cls b = 0 then 1 else runLen (cls b) l + 1
/-- the word, number or sign that comes next -/
def tok (r : List UInt8) : List UInt8 := (skipB r).take (tokLen (skipB r))
/-- a parser: what is left, and whether it is wrong -/
structure St where
  r : List UInt8
  bad : Bool
def takesB (t : List UInt8) (st : St) : Bool := !st.bad && (tok st.r == t && !(t == []))
def takesS (t : List UInt8) (st : St) : St := if st.bad then st else if takesB t st then ⟨(skipB st.r).drop t.length, false⟩ else ⟨skipB st.r, false⟩
def mustS (t : List UInt8) (st : St) : St := if takesB t st then takesS t st else ⟨skipB (takesS t st).r, true⟩
def numOk : List UInt8 → Option Nat
  | [a] => if cls a = 2 then some (a.toNat - 48) else none
  | [a, b] => if cls a = 2 ∧ cls b = 2 ∧ a.toNat ≠ 48 then some (10 * (a.toNat - 48) + (b.toNat - 48)) else none
  | _ => none
def numF (st : St) : Int × St :=
  if (mustS [40] st).bad then (0, mustS [40] st)
  else match numOk (tok (mustS [40] st).r) with
    | some n => ((n : Int), mustS [41] ⟨(skipB (mustS [40] st).r).drop (tok (mustS [40] st).r).length, false⟩)
    | none => (0, ⟨skipB (mustS [40] st).r, true⟩)
def wUp : List UInt8 := [117, 112]
def wDown : List UInt8 := [100, 111, 119, 110]
def wLive : List UInt8 := [108, 105, 118, 101]
def wKind : List UInt8 := [107, 105, 110, 100]
def wLabel : List UInt8 := [108, 97, 98, 101, 108]
/-- what is behind the parentheses' beginning -/
def oneP (or : St → QT × St) (st : St) : QT × St :=
  if (mustS [40] st).bad then (q0, mustS [40] st)
  else ((or (mustS [40] st)).1, mustS [41] (or (mustS [40] st)).2)
def oneL (or : St → QT × St) (st : St) : QT × St :=
  if takesB wLabel st then (.mk 4 (numF (takesS wLabel st)).1 [], (numF (takesS wLabel st)).2) else oneP or (takesS wLabel st)
def oneK (or : St → QT × St) (st : St) : QT × St :=
  if takesB wKind st then (.mk 3 (numF (takesS wKind st)).1 [], (numF (takesS wKind st)).2) else oneL or (takesS wKind st)
def oneV (or : St → QT × St) (st : St) : QT × St := if takesB wLive st then (.mk 8 0 [], takesS wLive st) else oneK or (takesS wLive st)
def oneD (or : St → QT × St) (st : St) : QT × St := if takesB wDown st then (.mk 2 0 [], takesS wDown st) else oneV or (takesS wDown st)
def oneF (or : St → QT × St) (st : St) : QT × St := if takesB wUp st then (.mk 1 0 [], takesS wUp st) else oneD or (takesS wUp st)
def starLoop : Nat → QT → St → QT × St
  | 0, q, st => (q, st)
  | f + 1, q, st => if takesB [42] st then starLoop f (.mk 5 0 [q]) (takesS [42] st) else (q, takesS [42] st)
def starF (or : St → QT × St) (st : St) : QT × St := starLoop ((oneF or st).2.r.length + 1) (oneF or st).1 (oneF or st).2
def listLoop (sign : List UInt8) (part : St → QT × St) : Nat → List QT → St → List QT × St
  | 0, l, st => (l, st)
  | f + 1, l, st => if takesB sign st then listLoop sign part f (l ++ [(part (takesS sign st)).1]) (part (takesS sign st)).2 else (l, takesS sign st)
def rowOf (op : Int) : List QT → QT
  | [q] => q
  | l => .mk op 0 l
def listF (sign : List UInt8) (op : Int) (part : St → QT × St) (st : St) : QT × St :=
  (rowOf op (listLoop sign part ((part st).2.r.length + 1) [(part st).1] (part st).2).1, (listLoop sign part ((part st).2.r.length + 1) [(part st).1] (part st).2).2)
def orF : Nat → St → QT × St
  | 0, st => (q0, st)
  | f + 1, st => listF [124] 6 (listF [59] 7 (starF (orF f))) st

/-- may a question be, whatever its kids are? -/
def aloneF : QT → Bool
  | .mk o n ks =>
    if o = 1 ∨ o = 2 ∨ o = 8 then n == 0 && ks.length == 0
    else if o = 3 then decide (1 ≤ n) && decide (n ≤ 5) && ks.length == 0
    else if o = 4 then decide (0 ≤ n) && decide (n < 8) && ks.length == 0
    else if o = 5 then n == 0 && ks.length == 1
    else if o = 6 ∨ o = 7 then n == 0 && decide (2 ≤ ks.length) && !(ks.any fun k => k.op == o)
    else false
mutual
def holdsF : QT → Int → Int → Int × Bool
  | .mk o n ks, left, at_ => if left - 1 < 0 ∨ 12 < at_ ∨ aloneF (.mk o n ks) = false then (left - 1, false) else holdsL ks (left - 1) (at_ + 1)
def holdsL : List QT → Int → Int → Int × Bool
  | [], left, _ => (left, true)
  | k :: ks, left, at_ => if (holdsF k left at_).2 then holdsL ks (holdsF k left at_).1 at_ else ((holdsF k left at_).1, false)
end
def checkF (q : QT) : Bool := (holdsF q 40 1).2
mutual
def sameQ : QT → QT → Bool
  | .mk o n ks, .mk o' n' ks' => o == o' && (n == n' && sameL ks ks')
def sameL : List QT → List QT → Bool
  | [], [] => true
  | x :: xs, y :: ys => sameQ x y && sameL xs ys
  | _, _ => false
end
def zeroF : QT → Bool
  | .mk o n ks => o == 0 && (n == 0 && ks.length == 0)
def SameF (a b : QT) : Bool := (checkF a && checkF b && sameQ a b) || (zeroF a && zeroF b)
/-- the digits of a small number -/
def dig2 (n : Int) : List UInt8 := if n < 10 then [UInt8.ofNat (48 + n.toNat)] else [UInt8.ofNat (48 + n.toNat / 10), UInt8.ofNat (48 + n.toNat % 10)]
def parens (l : List UInt8) : List UInt8 := 40 :: (l ++ [41])
mutual
def textF : QT → List UInt8
  | .mk o n ks =>
    if o = 1 then wUp else if o = 2 then wDown else if o = 8 then wLive
    else if o = 3 then wKind ++ parens (dig2 n) else if o = 4 then wLabel ++ parens (dig2 n)
    else if o = 5 then starText ks
    else if o = 7 then Lib.join (thenTexts ks) [59]
    else Lib.join (orTexts ks) [124]
def starText : List QT → List UInt8
  | [] => [42]
  | k :: _ => (if k.op = 6 ∨ k.op = 7 then parens (textF k) else textF k) ++ [42]
def thenTexts : List QT → List (List UInt8)
  | [] => []
  | k :: ks => (if k.op = 6 then parens (textF k) else textF k) :: thenTexts ks
def orTexts : List QT → List (List UInt8)
  | [] => []
  | k :: ks => textF k :: orTexts ks
end
def TextF (q : QT) : List UInt8 := if checkF q then textF q else []
/-- what Parse answers: the question, the place, the error -/
def parseF (s : List UInt8) : QT × Nat × Int :=
  if 200 < s.length then (q0, 0, 14)
  else if (orF (s.length + 1) ⟨s, false⟩).2.bad then (q0, s.length - (orF (s.length + 1) ⟨s, false⟩).2.r.length, 19)
  else if skipB (orF (s.length + 1) ⟨s, false⟩).2.r ≠ [] then (q0, s.length - (skipB (orF (s.length + 1) ⟨s, false⟩).2.r).length, 19)
  else if checkF (orF (s.length + 1) ⟨s, false⟩).1 then ((orF (s.length + 1) ⟨s, false⟩).1, 0, 0)
  else (q0, 0, 14)
/-- the document's example -/
def exText : List UInt8 := [40, 117, 112, 124, 100, 111, 119, 110, 41, 42, 59, 107, 105, 110, 100, 40, 50, 41]
def exTree : QT := .mk 7 0 [.mk 5 0 [.mk 6 0 [.mk 1 0 [], .mk 2 0 []]], .mk 3 2 []]
theorem ex_parse : sameQ (parseF exText).1 exTree = true ∧ (parseF exText).2 = (0, 0) := by decide +kernel
theorem ex_text : TextF exTree = exText := by decide +kernel
end Go.Proofs.YthlnaejmglajeaaDoor
