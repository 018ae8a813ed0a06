/- A context in a block of its own: its cells, a store into it; a world in which one block alone was written. No condition. -/
import Derived.Test.YtokclcilpekfiaaGreatDoorBase
import Derived.Laws.Tables
import Derived.OneCell
namespace Go.Proofs.YtokclcilpekfiaaGreatDoor
open Go.RowKit
set_option linter.unusedVariables false
set_option linter.unusedSimpArgs false

/-- Of what was there, block b alone may have been written; blocks may have been made. -/
structure Tch (b : Nat) (w w' : World) : Prop where
  os : w'.os = w.os
  tape : w'.tape = w.tape
  output : w'.output = w.output
  size : w.heap.size ≤ w'.heap.size
  block : ∀ k, k < w.heap.size → k ≠ b → w'.heap[k]? = w.heap[k]?
theorem Tch.refl (b : Nat) (w : World) : Tch b w w := ⟨rfl, rfl, rfl, Nat.le_refl _, fun _ _ _ => rfl⟩
theorem Tch.trans {b : Nat} {w w1 w2 : World} (h : Tch b w w1) (k : Tch b w1 w2) : Tch b w w2 :=
  ⟨k.os.trans h.os, k.tape.trans h.tape, k.output.trans h.output, Nat.le_trans h.size k.size, fun i hi hb => (k.block i (Nat.lt_of_lt_of_le hi h.size) hb).trans (h.block i hi hb)⟩
theorem Tch.of_below {b B : Nat} {w w' : World} (h : Below B w w') (hB : w.heap.size ≤ B) : Tch b w w' := ⟨h.os, h.tape, h.output, h.size, fun k hk _ => h.block k (Nat.lt_of_lt_of_le hk hB)⟩
theorem Tch.below {b B : Nat} {w w' : World} (h : Tch b w w') (hb : B ≤ b) (hB : B ≤ w.heap.size) : Below B w w' := ⟨h.os, h.tape, h.output, h.size, fun k hk => h.block k (Nat.lt_of_lt_of_le hk hB) (Nat.ne_of_lt (Nat.lt_of_lt_of_le hk hb))⟩
theorem Tch.drew {b : Nat} {a w : World} (h : Tch b a w) : Tch b a w.drew := ⟨h.os, h.tape, h.output, h.size, h.block⟩
theorem Tch.drewN {b : Nat} {a w : World} (h : Tch b a w) (n : Nat) : Tch b a (w.drewN n) := ⟨h.os, h.tape, h.output, h.size, h.block⟩
theorem Tch.alloc {b : Nat} {a w : World} (h : Tch b a w) (o : Obj) : Tch b a (w.alloc o) := h.trans (Tch.of_below (below_alloc1 w o) (Nat.le_refl _))
theorem Tch.cells {b : Nat} {w w' : World} (h : Tch b w w') : (∀ k o, k < w.heap.size → k ≠ b → w'.cell? ⟨k, o, none⟩ = w.cell? ⟨k, o, none⟩) ∧ (∀ k o, k < w.heap.size → k ≠ b → w'.frozen? ⟨k, o, none⟩ = w.frozen? ⟨k, o, none⟩) :=
  ⟨fun k o hk hb => World.cell?_of_block (h.block k hk hb), fun k o hk hb => World.frozen?_of_block (h.block k hk hb)⟩
theorem tch_setRow {w : World} {b : Nat} {cs cs' : Array Value} {t : TypeId} (h : w.heap[b]? = some (.cells cs t (0, 0))) : Tch b w (w.setRow b cs') := by
  refine ⟨rfl, rfl, rfl, by simp [World.setRow], fun k _ hb => ?_⟩
  simp only [World.setRow, Array.getElem?_modify]
  rw [if_neg (fun e => hb e.symm)]
def putAt : Array Value → Nat → List Value → Array Value
  | cs, _, [] => cs
  | cs, k, v :: vs => putAt (cs.setIfInBounds k v) (k + 1) vs
section
variable {P : Program}
theorem run_storeCells_blk (b : Nat) (t : TypeId) : ∀ (vs : List Value) (off i : Nat) (cs : Array Value) (w : World), w.heap[b]? = some (.cells cs t (0, 0)) → off + i + vs.length ≤ cs.size → (∀ v ∈ vs, v.oneCell' = true) →
    (storeCells ⟨b, off, none⟩ vs i).run P w = .ok () (w.setRow b (putAt cs (off + i) vs))
  | [], off, i, cs, w, hg, _, _ => by
    have hlt : b < w.heap.size := (Array.getElem?_eq_some_iff.1 hg).1
    have hv : w.heap[b] = .cells cs t (0, 0) := (Array.getElem?_eq_some_iff.1 hg).2
    show Result.ok () w = _
    congr 1
    unfold World.setRow putAt
    cases w with
    | mk heap tape drawn os output =>
      congr 1
      apply Array.ext
      · simp
      · intro k h1 h2
        simp only [Array.getElem_modify]
        split
        · rename_i hk; subst hk; simp at hv; simp [hv]
        · rfl
  | v :: rest, off, i, cs, w, hg, hl, h1 => by
    have hi : off + i < cs.size := by simp at hl; omega
    have hadd : (⟨b, off, none⟩ : Addr).add i = ⟨b, off + i, none⟩ := by unfold Addr.add; split <;> simp_all
    have hcell : w.cell? ⟨b, off + i, none⟩ = some cs[off + i] := by simp [World.cell?, hg, hi]
    have hfro : w.frozen? ⟨b, off + i, none⟩ = false := by simp [World.frozen?, hg]
    have hst : (store ((⟨b, off, none⟩ : Addr).add i) v).run P w = .ok () (w.setRow b (cs.setIfInBounds (off + i) v)) := by
      rw [hadd, run_store P w _ v _ (h1 v (by simp)), hcell]
      simp [hfro, setCell_eq_setRow w b (off + i) cs t (0, 0) v hg]
    have ih := run_storeCells_blk b t rest off (i + 1) (cs.setIfInBounds (off + i) v) (w.setRow b (cs.setIfInBounds (off + i) v)) (setRow_heap w b cs _ t _ hg) (by simp at hl ⊢; omega) (fun x hx => h1 x (by simp [hx]))
    simp only [storeCells, Sem.run_bind, hst, Result.andThen_ok, ih, setRow_setRow, putAt]
    rfl
theorem wp_store_blk {o : Oper} {a : Act} {w : World} {K : Act → World → Prop} {Q : Exit → Act → World → Prop} (ty : TypeId) (x y : Operand) (ho : o.op = .store ty x y)
    (b off : Nat) (v : Value) (hx : a.eval x = .pointer (some ⟨b, off, none⟩)) (hy : a.eval y = v)
    (t : TypeId) (cs : Array Value) (hg : w.heap[b]? = some (.cells cs t (0, 0))) (hi : (P.info? ty).map (·.size) = some v.cells.size)
    (hoff : off + v.cells.size ≤ cs.size) (h1 : v.cells.all (·.oneCell') = true)
    (h : K (a.put o.dst undef) (w.setRow b (putAt cs off v.cells.toList))) : o.wp P a w K Q := by
  have := run_storeCells_blk (P := P) b t v.cells.toList off 0 cs w hg (by simpa using hoff) (fun v' hv => (Array.all_eq_true_iff_forall_mem.1 h1) v' (by simpa using hv))
  have hsv : (storeVar ty ⟨b, off, none⟩ v).run P w = .ok () (w.setRow b (putAt cs off v.cells.toList)) := by
    cases hq : P.info? ty with
    | none => simp [hq] at hi
    | some i =>
      have hs : v.cells.size = i.size := by simp [hq] at hi; omega
      simpa [storeVar, sizeOf, typeInfo, hq, hs] using this
  unfold Oper.wp execOp
  simp only [ho, hx, hy, Instr.storeAt, Instr.sureAddr, Sem.run_bind, Sem.run_pure, Result.andThen_ok, hsv]
  exact h
theorem wpList_store_blk {ops : Array Oper} {rest : List Oper} {o : Oper} {a : Act} {w : World} {Q : Exit → Act → World → Prop} (hgd : o.guard = none) (ty : TypeId) (x y : Operand) (ho : o.op = .store ty x y)
    (b off : Nat) (v : Value) (hx : a.eval x = .pointer (some ⟨b, off, none⟩)) (hy : a.eval y = v)
    (t : TypeId) (cs : Array Value) (hg : w.heap[b]? = some (.cells cs t (0, 0))) (hi : (P.info? ty).map (·.size) = some v.cells.size)
    (hoff : off + v.cells.size ≤ cs.size) (h1 : v.cells.all (·.oneCell') = true)
    (h : ∀ w1 : World, w1.heap[b]? = some (.cells (putAt cs off v.cells.toList) t (0, 0)) → Tch b w w1 → w1.heap.size = w.heap.size → wpList P ops Q rest (a.put o.dst undef) w1) : wpList P ops Q (o :: rest) a w :=
  wpList_plain hgd fun _ hK => wp_store_blk ty x y ho b off v hx hy t cs hg hi hoff h1 (hK _ _ (h _ (setRow_heap w b cs _ t _ hg) (tch_setRow hg) (by simp [World.setRow])))
end
def cxCells (c : Cx) : Array Value := #[.int .i64 c.st.at_, .string c.st.name, .bool c.st.fin, .string c.st.attr, .string c.st.held, .int .i64 c.st.read, .bool c.ref, .int .i64 c.kind, .int .i64 c.url, .int .i64 c.lang]
/-- A context alone in a block. -/
def CxBlk (w : World) (b : Nat) (c : Cx) : Prop := w.heap[b]? = some (.cells (cxCells c) 31 (0, 0))
theorem CxBlk.at {w : World} {b : Nat} {c : Cx} (h : CxBlk w b c) : CxAt w b 0 c := by
  unfold CxBlk cxCells at h
  refine ⟨⟨?_, ?_, ?_, ?_, ?_, ?_⟩, ?_, ?_, ?_, ?_⟩ <;> simp [World.cell?, h]
theorem CxBlk.free {w : World} {b : Nat} {c : Cx} (h : CxBlk w b c) (o : Nat) : w.frozen? ⟨b, o, none⟩ = false := by
  unfold CxBlk at h
  simp [World.frozen?, h]
theorem CxBlk.lt {w : World} {b : Nat} {c : Cx} (h : CxBlk w b c) : b < w.heap.size := lt_of_block h
theorem CxBlk.below {w w' : World} {b : Nat} {c : Cx} (h : CxBlk w b c) (hb : Below w.heap.size w w') : CxBlk w' b c := (hb.block b h.lt).trans h
theorem CxBlk.tch {w w' : World} {b d : Nat} {c : Cx} (h : CxBlk w b c) (ht : Tch d w w') (hd : b ≠ d) : CxBlk w' b c := (ht.block b h.lt hd).trans h
theorem CxBlk.new (w : World) (c : Cx) : CxBlk (w.alloc (.cells (cxCells c) 31)) w.heap.size c := by
  show (w.heap.push _)[w.heap.size]? = _
  simp
theorem Tch.setCell {b : Nat} {a w : World} (h : Tch b a w) (o : Nat) (s : Option Nat) (v : Value) : Tch b a (w.setCell ⟨b, o, s⟩ v) :=
  h.trans ⟨rfl, rfl, rfl, by simp [World.setCell], fun k _ hb => Below.heap_setCell _ _ _ _ hb⟩
theorem blk_setCell {w : World} {b : Nat} {cs : Array Value} {t : TypeId} (h : w.heap[b]? = some (.cells cs t (0, 0))) (i : Nat) (v : Value) : (w.setCell ⟨b, i, none⟩ v).heap[b]? = some (.cells (cs.setIfInBounds i v) t (0, 0)) := by
  rw [setCell_eq_setRow w b i cs t (0, 0) v h]
  exact setRow_heap w b cs _ t _ h
theorem CxBlk.setRef {w : World} {b : Nat} {c : Cx} (h : CxBlk w b c) (v : Bool) : CxBlk (w.setCell ⟨b, 6, none⟩ (.bool v)) b ⟨c.st, v, c.kind, c.url, c.lang⟩ := blk_setCell h _ _
theorem CxBlk.setKind {w : World} {b : Nat} {c : Cx} (h : CxBlk w b c) (v : Int) : CxBlk (w.setCell ⟨b, 7, none⟩ (.int .i64 v)) b ⟨c.st, c.ref, v, c.url, c.lang⟩ := blk_setCell h _ _
theorem CxBlk.setUrl {w : World} {b : Nat} {c : Cx} (h : CxBlk w b c) (v : Int) : CxBlk (w.setCell ⟨b, 8, none⟩ (.int .i64 v)) b ⟨c.st, c.ref, c.kind, v, c.lang⟩ := blk_setCell h _ _
theorem CxBlk.setLang {w : World} {b : Nat} {c : Cx} (h : CxBlk w b c) (v : Int) : CxBlk (w.setCell ⟨b, 9, none⟩ (.int .i64 v)) b ⟨c.st, c.ref, c.kind, c.url, v⟩ := blk_setCell h _ _
/-- A state stored over a context's. -/
def setSt (w : World) (b : Nat) (s : St) : World := (((((w.setCell ⟨b, 0, none⟩ (.int .i64 s.at_)).setCell ⟨b, 1, none⟩ (.string s.name)).setCell ⟨b, 2, none⟩ (.bool s.fin)).setCell ⟨b, 3, none⟩ (.string s.attr)).setCell ⟨b, 4, none⟩ (.string s.held)).setCell ⟨b, 5, none⟩ (.int .i64 s.read)
theorem CxBlk.setSt {w : World} {b : Nat} {c : Cx} (h : CxBlk w b c) (s : St) : CxBlk (setSt w b s) b ⟨s, c.ref, c.kind, c.url, c.lang⟩ := by
  exact blk_setCell (blk_setCell (blk_setCell (blk_setCell (blk_setCell (blk_setCell h 0 _) 1 _) 2 _) 3 _) 4 _) 5 _
theorem Tch.setSt {b : Nat} {a w : World} (h : Tch b a w) (s : St) : Tch b a (setSt w b s) := (((((h.setCell _ _ _).setCell _ _ _).setCell _ _ _).setCell _ _ _).setCell _ _ _).setCell _ _ _
end Go.Proofs.YtokclcilpekfiaaGreatDoor
