/- What package ctx answers, as plain Lean functions: places, contexts, holes. No condition. -/
import Derived.Test.YtokclcilpekfiaaGreatDoorModel
namespace Go.Proofs.YtokclcilpekfiaaGreatDoor
open Go.RowKit

def cQuoted (s : St) : Bool := s.at_ == 8 || s.at_ == 9
def cHolds (s : St) : Int := if decide (s.at_ < 19) || decide (22 < s.at_) then 0 else elemKind s.held
def cCoded (s : St) : Bool := cHolds s == 3 || cHolds s == 4
def cReferred (s : St) : Bool := s.at_ == 0 || (cHolds s == 2 || cQuoted s)
def cKind (s : St) : Int := if cQuoted s && !s.fin then attrKind s.attr else if cHolds s == 3 then 2 else if cHolds s == 4 then 3 else 0
def stSame (s t : St) : Bool := s.at_ == t.at_ && (s.name.toList == t.name.toList && (s.fin == t.fin && (s.attr.toList == t.attr.toList && (s.held.toList == t.held.toList && s.read == t.read))))
def cStateMay (s : St) : Bool :=
  if decide (s.at_ < 0) || (decide (22 < s.at_) || (!stSame s (tClean s) || (decide (32 < s.name.size) || decide (32 < s.attr.size)))) then false
  else if decide (s.at_ < 19) then true
  else (cCoded s || cHolds s == 2) && (decide (0 ≤ s.read) && decide (s.read ≤ (s.held.size : Int)))
def cLangKind (k : Int) : Bool := k == 2 || k == 3
def cMay (c : Cx) : Bool :=
  cStateMay c.st && (c.kind == cKind c.st && ((!c.ref || cReferred c.st) && ((c.kind == 1 || c.url == 0) && ((cLangKind c.kind || c.lang == 0) &&
    (decide (0 ≤ c.url) && (decide (c.url ≤ 4) && (decide (0 ≤ c.lang) && decide (c.lang ≤ 9))))))))
def cOpen (u : Int) : Bool := u != 3 && u != 4
def cAddress (u c : Int) : Int × Bool :=
  if (cOpen u && c == 38) || (u == 2 && c == 58) then (0, false)
  else if c == 63 || c == 35 then (4, true)
  else if cOpen u && (c == 58 || c == 47) then (3, true)
  else if u == 0 && decide (32 < c) then (1, true)
  else (u, true)
def lCode (js : Bool) (c : Int) : Int :=
  if c == 34 then 1 else if c == 39 then 2 else if c == 47 then 5 else if (js && c == 96) || (!js && c == 92) then 9 else 0
def lText (l c q sl : Int) : Int := if c == 92 then sl else if c == q then 0 else if c == 10 then 9 else l
def lSlash (js : Bool) (c : Int) : Int := if c == 42 then 7 else if !js then lCode js c else if c == 47 then 6 else 9
def lLine (js : Bool) (c : Int) : Int := if js && c == 10 then 0 else 6
def lBlock (c : Int) : Int := if c == 42 then 8 else 7
def lBlockStar (c : Int) : Int := if c == 47 then 0 else lBlock c
def lNext (l : Int) (js : Bool) (c : Int) : Int :=
  match l.toNat with
  | 0 => lCode js c | 1 => lText l c 34 3 | 2 => lText l c 39 4 | 3 => 1 | 4 => 2 | 5 => lSlash js c | 6 => lLine js c | 7 => lBlock c | 8 => lBlockStar c | _ => 9
def cZone (s : St) : Int := if cQuoted s then 1 else if cCoded s then 2 else 0
def cWord (c : Int) : Bool := letter c || (digit c || c == 35)
/-- A context behind a byte; an error's number, 0: none. -/
def cStep (c : Cx) (x : Int) : Cx × Int :=
  let st := tStep c.st x
  let ref := cReferred st && (x == 38 || (c.ref && cWord x))
  if cZone st == 0 || cZone st != cZone c.st then (⟨st, ref, cKind st, 0, 0⟩, 0)
  else if c.kind == 1 then (if (cAddress c.url x).2 then (⟨st, ref, c.kind, (cAddress c.url x).1, c.lang⟩, 0) else (⟨st, ref, c.kind, c.url, c.lang⟩, 2003))
  else if c.kind == 2 || c.kind == 3 then (⟨st, ref, c.kind, c.url, if cZone st == 1 && x == 38 then 9 else lNext c.lang (c.kind == 2) x⟩, 0)
  else (⟨st, ref, c.kind, c.url, c.lang⟩, 0)
/-- A context behind a text's bytes. -/
def cSteps : Cx → List UInt8 → Cx × Int
  | c, [] => (c, 0)
  | c, x :: l => if (cStep c x.toNat).2 == 0 then cSteps (cStep c x.toNat).1 l else (Cx.zero, (cStep c x.toNat).2)
def cText (c : Cx) (s : ByteArray) : Cx × Int := if cMay c then cSteps c s.data.toList else (Cx.zero, 2000)
def cInLang (c : Cx) (code text style : Int) : Int × Int :=
  if c.lang == 0 && c.kind == 3 then (style, 0) else if c.lang == 0 then (code, 0) else if c.kind == 2 && (c.lang == 1 || c.lang == 2) then (text, 0) else (0, 2004)
def cInUrl (c : Cx) : Int × Cx × Int :=
  if c.url == 1 then (0, c, 2003) else if c.url == 0 then (1, ⟨c.st, c.ref, c.kind, 2, c.lang⟩, 0) else (2, c, 0)
def cPlace (c : Cx) : Int × Cx × Int :=
  if !(c.st.at_ == 0 || (c.st.at_ == 19 || cQuoted c.st)) then (0, c, 2001)
  else if cCoded c.st then ((cInLang c 3 4 5).1, c, (cInLang c 3 4 5).2)
  else if c.ref then (0, c, 2002)
  else if c.kind == 1 then cInUrl c
  else if c.kind == 0 then (0, c, 0)
  else ((cInLang c 6 7 8).1, c, (cInLang c 6 7 8).2)
def cHole (c : Cx) : Int × Cx × Int :=
  if cMay c then (if (cPlace c).2.2 == 0 then ((cPlace c).1, (cPlace c).2.1, 0) else (0, Cx.zero, (cPlace c).2.2)) else (0, Cx.zero, 2000)
end Go.Proofs.YtokclcilpekfiaaGreatDoor
