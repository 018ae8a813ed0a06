/- What the program's functions answer, as plain Lean functions: bytes, names, the tokenizer's states, contexts. No condition. -/
import Derived.Test.YtokclcilpekfiaaGreatDoorBase
import Derived.Laws.BytesArg
namespace Go.Proofs.YtokclcilpekfiaaGreatDoor
open Go.RowKit
set_option linter.unusedVariables false
set_option linter.unusedSimpArgs false

def low (c : Int) : Int := if 65 ≤ c ∧ c ≤ 90 then c + 32 else c
def letter (c : Int) : Bool := decide (97 ≤ low c) && decide (low c ≤ 122)
def digit (c : Int) : Bool := decide (48 ≤ c) && decide (c ≤ 57)
def blank (c : Int) : Bool := c == 32 || (decide (9 ≤ c) && (decide (c ≤ 13) && c != 11))
theorem low_range (c : Int) (h0 : 0 ≤ c) (h1 : c ≤ 255) : 0 ≤ low c ∧ low c ≤ 255 := by unfold low; split <;> omega
def elemKind (s : ByteArray) : Int := if s.toList == [98, 114] then 1 else if s.toList == [105, 109, 103] then 1 else if s.toList == [105, 110, 112, 117, 116] then 1 else if s.toList == [104, 114] then 1 else if s.toList == [109, 101, 116, 97] then 1 else if s.toList == [108, 105, 110, 107] then 1 else if s.toList == [116, 105, 116, 108, 101] then 2 else if s.toList == [116, 101, 120, 116, 97, 114, 101, 97] then 2 else if s.toList == [115, 99, 114, 105, 112, 116] then 3 else if s.toList == [115, 116, 121, 108, 101] then 4 else 0
def hasOn (s : ByteArray) : Bool := [111, 110].isPrefixOf s.toList
def attrKind (s : ByteArray) : Int := if s.toList == [104, 114, 101, 102] then 1 else if s.toList == [115, 114, 99] then 1 else if s.toList == [97, 99, 116, 105, 111, 110] then 1 else if s.toList == [102, 111, 114, 109, 97, 99, 116, 105, 111, 110] then 1 else if s.toList == [99, 105, 116, 101] then 1 else if s.toList == [115, 116, 121, 108, 101] then 3 else if hasOn s && decide (2 < s.size) then 2 else 0
/-- A name with a byte more, if there is room. -/
def more (s : ByteArray) (c : Int) : ByteArray := if 32 ≤ s.size then s else s ++ strOfNums [low c]
def stAt (x : Int) : St := ⟨x, ⟨#[]⟩, false, ⟨#[]⟩, ⟨#[]⟩, 0⟩
def stIn (s : St) (x : Int) : St := ⟨x, s.name, s.fin, ⟨#[]⟩, ⟨#[]⟩, 0⟩
def stAttr (s : St) (x : Int) (n : ByteArray) : St := ⟨x, s.name, s.fin, n, ⟨#[]⟩, 0⟩
def stHeld (s : St) (x : Int) : St := ⟨x, ⟨#[]⟩, false, ⟨#[]⟩, s.held, 0⟩
def closes (s : St) : St := if s.fin || (elemKind s.name == 0 || elemKind s.name == 1) then stAt 0 else ⟨19, ⟨#[]⟩, false, ⟨#[]⟩, s.name, 0⟩
def between (s : St) (c x : Int) : St × Bool :=
  if blank c then (stIn s x, true) else if c == 47 then (stIn s 12, true) else if c == 62 then (closes s, true) else (St.zero, false)

def tData (c : Int) : St := if c == 60 then stAt 1 else stAt 0
def tTagOpen (c : Int) : St := if letter c then ⟨3, more ⟨#[]⟩ c, false, ⟨#[]⟩, ⟨#[]⟩, 0⟩ else if c == 47 then stAt 2 else if c == 33 then stAt 13 else tData c
def tEndOpen (c : Int) : St := if letter c then ⟨3, more ⟨#[]⟩ c, true, ⟨#[]⟩, ⟨#[]⟩, 0⟩ else tData c
def tTagName (s : St) (c : Int) : St := if (between s c 4).2 then (between s c 4).1 else ⟨3, more s.name c, s.fin, ⟨#[]⟩, ⟨#[]⟩, 0⟩
def tBegins (s : St) (c : Int) : St := if (between s c 4).2 then (between s c 4).1 else stAttr s 5 (more ⟨#[]⟩ c)
def tNames (s : St) (c : Int) (n : ByteArray) : St :=
  if blank c then stAttr s 6 s.attr else if c == 61 then stAttr s 7 s.attr else if (between s c 0).2 then (between s c 0).1 else stAttr s 5 (more n c)
def tBeforeValue (s : St) (c : Int) : St :=
  if blank c then stAttr s 7 s.attr else if c == 34 then stAttr s 8 s.attr else if c == 39 then stAttr s 9 s.attr else if c == 62 then closes s else stAttr s 10 s.attr
def tQuoted (s : St) (c q : Int) : St := if c == q then stIn s 11 else stAttr s s.at_ s.attr
def tBare (s : St) (c : Int) : St := if blank c then stIn s 4 else if c == 62 then closes s else stAttr s 10 s.attr
def tBangs (c n : Int) : St := if c == 45 then stAt n else if c == 62 then stAt 0 else stAt 18
def tEither (t : Bool) (x y : Int) : St := if t then stAt x else stAt y
def tCommentEnd (c : Int) : St := if c == 62 then stAt 0 else tEither (c == 45) 17 15
def tHolds (s : St) (c : Int) : St := if c == 60 then stHeld s 20 else stHeld s 19
def tHeldLt (s : St) (c : Int) : St := if c == 47 then stHeld s 21 else tHolds s c
/-- A text's byte as a number; 0 where there is none. -/
def byteAt (s : ByteArray) (i : Int) : Int := if h : i.toNat < s.size then ((s[i.toNat]'h).toNat : Int) else 0
theorem byteAt_nat (s : ByteArray) (n : Nat) (h : n < s.size) : byteAt s (n : Int) = ((s[n]'h).toNat : Int) := by
  unfold byteAt
  rw [dif_pos (show ((n : Int).toNat) < s.size from h)]
  rfl
def tReads (s : St) (c r : Int) : St :=
  if decide (0 ≤ r) && (decide (r < (s.held.size : Int)) && low c == low (byteAt s.held r)) then ⟨22, ⟨#[]⟩, false, ⟨#[]⟩, s.held, wrap64 (r + 1)⟩ else tHolds s c
def stEnd (s : St) : St := ⟨0, s.held, true, ⟨#[]⟩, ⟨#[]⟩, 0⟩
def tHeldName (s : St) (c : Int) : St :=
  if decide (s.read < (s.held.size : Int)) then tReads s c s.read else if (between (stEnd s) c 4).2 then (between (stEnd s) c 4).1 else tHolds s c
def tClean (s : St) : St :=
  if decide (5 ≤ s.at_) && decide (s.at_ ≤ 10) then stAttr s s.at_ s.attr
  else if decide (3 ≤ s.at_) && decide (s.at_ ≤ 12) then stIn s s.at_
  else if decide (19 ≤ s.at_) && decide (s.at_ ≤ 22) then (if s.at_ == 22 then ⟨22, ⟨#[]⟩, false, ⟨#[]⟩, s.held, s.read⟩ else stHeld s s.at_)
  else stAt s.at_
def tStep (s : St) (c : Int) : St :=
  if decide (s.at_ < 0) || decide (23 ≤ s.at_) then s else
  match s.at_.toNat with
  | 0 => tData c | 1 => tTagOpen c | 2 => tEndOpen c | 3 => tTagName s c | 4 => tBegins s c | 5 => tNames s c s.attr | 6 => tNames s c ⟨#[]⟩ | 7 => tBeforeValue s c
  | 8 => tQuoted s c 34 | 9 => tQuoted s c 39 | 10 => tBare s c | 11 => tBegins s c | 12 => tBegins s c | 13 => tBangs c 14 | 14 => tBangs c 15
  | 15 => tEither (c == 45) 16 15 | 16 => tEither (c == 45) 17 15 | 17 => tCommentEnd c | 18 => tEither (c == 62) 0 18 | 19 => tHolds s c | 20 => tHeldLt s c | 21 => tReads s c 0
  | _ => tHeldName s c
end Go.Proofs.YtokclcilpekfiaaGreatDoor
