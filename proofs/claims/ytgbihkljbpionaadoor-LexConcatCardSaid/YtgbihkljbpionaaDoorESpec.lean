/- What the lexer computes, as plain functions on lists of bytes. -/
import Derived.Test.YtgbihkljbpionaaDoorQx0
namespace Go.Proofs.YtgbihkljbpionaaDoor.Q

def isLetter (c : UInt8) : Bool := (decide (97 ≤ c.toNat) && decide (c.toNat ≤ 122)) || (decide (65 ≤ c.toNat) && decide (c.toNat ≤ 90))
def isDigit (c : UInt8) : Bool := decide (48 ≤ c.toNat) && decide (c.toNat ≤ 57)
def isWithin (c : UInt8) : Bool := (isLetter c || isDigit c) || decide (c.toNat = 95)
def isBlank (c : UInt8) : Bool := [(32 : UInt8), 9, 10].contains c
def opsL : List (List UInt8) := [[61, 61], [38, 38], [124, 124], [62, 61], [123], [125], [40], [41], [59], [61], [43], [45], [42], [60], [33]]
def val (l : List UInt8) : Nat := l.foldl (fun n c => 10 * n + (c.toNat - 48)) 0
def follows (s : List UInt8) (k : Nat) : Bool := match s[k]? with
  | some c => isWithin c
  | none => false
def numOk (s w : List UInt8) : Bool := decide (w.length ≤ 5) && (decide (val w < 65536) && ((w.head? != some 48 || decide (w.length = 1)) && !follows s w.length))
def tk (k : Int) (w : List UInt8) (n p : Nat) : S30 := ⟨k, ⟨w.toArray⟩, n, p⟩
def tok (s : List UInt8) (p : Nat) : Option S30 := match s with
  | [] => none
  | c :: _ =>
    if isLetter c = true then (if (s.takeWhile isWithin).length ≤ 12 then some (tk 1 (s.takeWhile isWithin) 0 p) else none)
    else if isDigit c = true then (if numOk s (s.takeWhile isDigit) = true then some (tk 2 (s.takeWhile isDigit) (val (s.takeWhile isDigit)) p) else none)
    else (opsL.find? (fun o => o.isPrefixOf s)).map fun o => tk 3 o 0 p
def scan : Nat → List UInt8 → Nat → Option (List S30)
  | 0, _, _ => none
  | k + 1, l, p =>
    if l.dropWhile isBlank = [] then some []
    else match tok (l.dropWhile isBlank) (p + (l.length - (l.dropWhile isBlank).length)) with
      | none => none
      | some t => (scan k ((l.dropWhile isBlank).drop t.f1.size) (p + (l.length - (l.dropWhile isBlank).length) + t.f1.size)).map (t :: ·)
def toks (s : ByteArray) : List S30 × Int :=
  if s.size > 1500 then ([], 2) else match scan (s.size + 1) s.data.toList 0 with
    | none => ([], 3)
    | some l => (l, 0)
/-- lex.Tokens. -/
def lex_Tokens.f (a0 : ByteArray) : Option (List (S30) × Int) := some (toks a0)

end Go.Proofs.YtgbihkljbpionaaDoor.Q
