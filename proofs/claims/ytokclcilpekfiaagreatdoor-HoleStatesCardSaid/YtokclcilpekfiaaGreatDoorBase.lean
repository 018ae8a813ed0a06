/- The words that this seat's walks share: a state and a context as they lie in memory, and small lemmas on worlds. No condition. -/
import Derived.Test.YtokclcilpekfiaaGreatDoorProg
import Derived.WalkKit
import Derived.Below
import Derived.Deep.QuietTactic
import Derived.BigQuiet
import Derived.RowKit
import Derived.OwnWalk
import Derived.StillTailTactics
import Derived.Deep.RegionHeld3
import Derived.Lib.Hide
namespace Go.Proofs.YtokclcilpekfiaaGreatDoor
open Go.RowKit
set_option linter.unusedVariables false
set_option linter.unusedSimpArgs false

/-- A tokenizer's state. -/
structure St where
  at_ : Int
  name : ByteArray
  fin : Bool
  attr : ByteArray
  held : ByteArray
  read : Int
  deriving DecidableEq

/-- A context. -/
structure Cx where
  st : St
  ref : Bool
  kind : Int
  url : Int
  lang : Int
  deriving DecidableEq

def St.zero : St := ⟨0, ⟨#[]⟩, false, ⟨#[]⟩, ⟨#[]⟩, 0⟩
def Cx.zero : Cx := ⟨St.zero, false, 0, 0, 0⟩

def St.val (s : St) : Value := .agg #[.int .i64 s.at_, .string s.name, .bool s.fin, .string s.attr, .string s.held, .int .i64 s.read]
def Cx.val (c : Cx) : Value := .agg #[.int .i64 c.st.at_, .string c.st.name, .bool c.st.fin, .string c.st.attr, .string c.st.held, .int .i64 c.st.read, .bool c.ref, .int .i64 c.kind, .int .i64 c.url, .int .i64 c.lang]
attribute [go_sem] St.val Cx.val

def StAt (w : World) (b off : Nat) (s : St) : Prop :=
  w.cell? ⟨b, off, none⟩ = some (.int .i64 s.at_) ∧ w.cell? ⟨b, off + 1, none⟩ = some (.string s.name) ∧ w.cell? ⟨b, off + 2, none⟩ = some (.bool s.fin) ∧
  w.cell? ⟨b, off + 3, none⟩ = some (.string s.attr) ∧ w.cell? ⟨b, off + 4, none⟩ = some (.string s.held) ∧ w.cell? ⟨b, off + 5, none⟩ = some (.int .i64 s.read)

def CxAt (w : World) (b off : Nat) (c : Cx) : Prop :=
  StAt w b off c.st ∧ w.cell? ⟨b, off + 6, none⟩ = some (.bool c.ref) ∧ w.cell? ⟨b, off + 7, none⟩ = some (.int .i64 c.kind) ∧
  w.cell? ⟨b, off + 8, none⟩ = some (.int .i64 c.url) ∧ w.cell? ⟨b, off + 9, none⟩ = some (.int .i64 c.lang)

theorem bcell {W w1 : World} (hb : Below W.heap.size W w1) : (∀ b o, b < W.heap.size → w1.cell? ⟨b, o, none⟩ = W.cell? ⟨b, o, none⟩) ∧ (∀ b o, b < W.heap.size → w1.frozen? ⟨b, o, none⟩ = W.frozen? ⟨b, o, none⟩) :=
  ⟨fun b o h => hb.cell (p := ⟨b, o, none⟩) h, fun b o h => hb.frozen (p := ⟨b, o, none⟩) h⟩

theorem StAt.lt {w : World} {b off : Nat} {s : St} (h : StAt w b off s) : b < w.heap.size := World.block_lt_of_cell? w ⟨b, off, none⟩ h.1
theorem CxAt.lt {w : World} {b off : Nat} {s : Cx} (h : CxAt w b off s) : b < w.heap.size := h.1.lt
theorem StAt.below {w w' : World} {b off : Nat} {s : St} (h : StAt w b off s) (hb : Below w.heap.size w w') : StAt w' b off s := by
  have hl := h.lt
  obtain ⟨h0, h1, h2, h3, h4, h5⟩ := h
  exact ⟨(hb.cell (p := ⟨b, _, none⟩) hl).trans h0, (hb.cell (p := ⟨b, _, none⟩) hl).trans h1, (hb.cell (p := ⟨b, _, none⟩) hl).trans h2, (hb.cell (p := ⟨b, _, none⟩) hl).trans h3, (hb.cell (p := ⟨b, _, none⟩) hl).trans h4, (hb.cell (p := ⟨b, _, none⟩) hl).trans h5⟩
theorem CxAt.below {w w' : World} {b off : Nat} {s : Cx} (h : CxAt w b off s) (hb : Below w.heap.size w w') : CxAt w' b off s := by
  have hl := h.lt
  obtain ⟨h0, h1, h2, h3, h4⟩ := h
  exact ⟨h0.below hb, (hb.cell (p := ⟨b, _, none⟩) hl).trans h1, (hb.cell (p := ⟨b, _, none⟩) hl).trans h2, (hb.cell (p := ⟨b, _, none⟩) hl).trans h3, (hb.cell (p := ⟨b, _, none⟩) hl).trans h4⟩

theorem below_alloc1 (w : World) (o : Obj) : Below w.heap.size w (w.alloc o) := (Below.refl _ _).alloc (Nat.le_refl _) _

/-- A region that draws its order: reads and quiet calls ahead of one forced tail. -/
theorem wp_tail_drew {P : Program} {id : Nat} {Q : Exit → Act → World → Prop} {a : Act} {w : World} {l : List Oper} (n : Nat) (hm : P.follows .mixedOrders = true) (hB : Region.lexTailB .any l.toArray n = true)
    (h : wpStill P l.toArray w.drew (fun a' => wpList P l.toArray Q (l.drop n) a' w.drew) (l.take n) a) : (Code.region id l.toArray true).wp P Q a w :=
  wp_region_still_tail n hm hB h

theorem below_drewN {B : Nat} {a w : World} (h : Below B a w) (n : Nat) : Below B a (w.drewN n) := ⟨h.os, h.tape, h.output, h.size, h.block⟩
theorem flipw {P : Program} {f : FuncId} {args : Array Value} {w : World} {v : Value} (h : Calls P f args w fun e w' => e = .returned v ∧ w = w') : Calls P f args w fun e w' => e = .returned v ∧ w' = w :=
  h.mono fun _ _ ⟨he, hw⟩ => ⟨he, hw.symm⟩
theorem chain1 (a : Bool) : a = true ∨ a = false := by cases a <;> simp
theorem chain2 (a b : Bool) : a = true ∨ (a = false ∧ b = true) ∨ (a = false ∧ b = false) := by cases a <;> cases b <;> simp
theorem chain3 (a b c : Bool) : a = true ∨ (a = false ∧ b = true) ∨ (a = false ∧ b = false ∧ c = true) ∨ (a = false ∧ b = false ∧ c = false) := by cases a <;> cases b <;> cases c <;> simp
theorem chain4 (a b c d : Bool) : a = true ∨ (a = false ∧ b = true) ∨ (a = false ∧ b = false ∧ c = true) ∨ (a = false ∧ b = false ∧ c = false ∧ d = true) ∨ (a = false ∧ b = false ∧ c = false ∧ d = false) := by cases a <;> cases b <;> cases c <;> cases d <;> simp
theorem chain5 (a b c d e : Bool) : a = true ∨ (a = false ∧ b = true) ∨ (a = false ∧ b = false ∧ c = true) ∨ (a = false ∧ b = false ∧ c = false ∧ d = true) ∨ (a = false ∧ b = false ∧ c = false ∧ d = false ∧ e = true) ∨ (a = false ∧ b = false ∧ c = false ∧ d = false ∧ e = false) := by cases a <;> cases b <;> cases c <;> cases d <;> cases e <;> simp
end Go.Proofs.YtokclcilpekfiaaGreatDoor
