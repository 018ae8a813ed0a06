/- Contracts of json's writer: add, full, text. Condition: the writer is one of the call's own. -/
import Derived.Test.YtokclcilpekfiaaGreatDoorJstr
import Derived.Lib.AppendStr
import Derived.OwnWalk
import Derived.OneCell
import Derived.Laws.IdiomStrings
import Derived.Laws.BytesArg
namespace Go.Proofs.YtokclcilpekfiaaGreatDoor
open Go.RowKit
set_option linter.unusedVariables false
set_option linter.unusedSimpArgs false
/-- A writer in block b, made at B or behind, that holds the bytes l. -/
def WrAt (B b : Nat) (l : List UInt8) (w : World) : Prop :=
  B ≤ b ∧ ∃ v, w.heap[b]? = some (.cells #[v] 118 (0, 0)) ∧ w.ownsRow B 5 1 v l.length (Lib.byteCells l) ∧ v.ownBlock ≠ some b
theorem WrAt.lt {B b : Nat} {l : List UInt8} {w : World} (h : WrAt B b l w) : b < w.heap.size := by
  obtain ⟨_, v, hb, _⟩ := h
  exact lt_of_block hb
theorem WrAt.below {B b : Nat} {l : List UInt8} {W W' : World} (h : WrAt B b l W) (hb : Below W.heap.size W W') : WrAt B b l W' := by
  have hlt := h.lt
  obtain ⟨hB, v, hv, hown, hne⟩ := h
  exact ⟨hB, v, (hb.block b hlt).trans hv, hown.kept (row := none) ⟨hb.os, hb.tape, hb.output, hb.size, fun k hk _ => hb.block k hk⟩ (Classical.em _), hne⟩
theorem WrAt.fresh (w : World) : WrAt w.heap.size w.heap.size [] (w.alloc (.cells #[.slice none 0 0] 118)) :=
  ⟨Nat.le_refl _, .slice none 0 0, by show (w.heap.push _)[w.heap.size]? = _; simp, ⟨rfl, .inl ⟨rfl, rfl⟩⟩, by simp [Value.ownBlock]⟩
theorem slice_of_own {w : World} {base n : Nat} {e : TypeId} {sz : Nat} {v : Value} {xs : List Value} (h : w.ownsRow base e sz v n xs) : ∃ p n' c, v = .slice p n' c := by
  obtain ⟨_, ⟨rfl, _⟩ | ⟨g, cap, cur, rfl, _⟩⟩ := h
  · exact ⟨_, _, _, rfl⟩
  · exact ⟨_, _, _, rfl⟩
theorem own_other {w : World} {base n b : Nat} {e e' : TypeId} {sz : Nat} {v u : Value} {xs : List Value} (h : w.ownsRow base e sz v n xs) (hb : w.heap[b]? = some (.cells #[u] e' (0, 0))) (he : e ≠ e') : v.ownBlock ≠ some b := by
  obtain ⟨_, ⟨rfl, _⟩ | ⟨g, cap, cur, rfl, _, hg, _⟩⟩ := h
  · simp [Value.ownBlock]
  · intro hh
    simp only [Value.ownBlock, Option.some.injEq] at hh
    subst hh
    rw [hg] at hb
    simp at hb
    exact he hb.2
theorem own_ge {w : World} {base n k : Nat} {e : TypeId} {sz : Nat} {v : Value} {xs : List Value} (h : w.ownsRow base e sz v n xs) (hk : v.ownBlock = some k) : base ≤ k := by
  obtain ⟨_, ⟨rfl, _⟩ | ⟨g, cap, cur, rfl, hg, _⟩⟩ := h
  · simp [Value.ownBlock] at hk
  · simp only [Value.ownBlock, Option.some.injEq] at hk
    omega
def AddPost (B b : Nat) (l : List UInt8) (w : World) (e : Ending) (w' : World) : Prop := e = .returned (.tuple #[]) ∧ WrAt B b l w' ∧ Below B w w'
theorem u8_info : (Tryz.prog.info? 5).map (fun i => (i.zero, i.size, i.bytes)) = some (some (.int .u8 0), 1, 1) := by kernel_rfl
set_option maxHeartbeats 1000000 in
set_option maxRecDepth 100000 in
theorem writer_add (B b : Nat) (l : List UInt8) (s : ByteArray) (w : World) (h : WrAt B b l w) (hlen : l.length + s.size ≤ 140737488355328) (hB : B ≤ w.heap.size) :
    Calls Tryz.prog 145 #[.pointer (some ⟨b, 0, none⟩), .string s] w (AddPost B b (l ++ s.data.toList) w) := by
  obtain ⟨hb, v, hv, hown, hne⟩ := h
  obtain ⟨i0, hi, hz0, hz1, hz2⟩ := info_parts u8_info
  have c0 := cell_of_one hv
  have c1 := free_of_one hv
  have c2 := lt_of_block hv
  have HV := Lib.hid hv
  have HO := Lib.hid hown
  have HI := Lib.hid hi
  have HZ := Lib.hid (And.intro hz0 (And.intro hz1 hz2))
  have HN := Lib.hid hne
  clear hv hown hi hz0 hz1 hz2 hne
  go_enter Tryz.func145, Tryz.ntmps145
  go_wp2_with (first | (at_builtin; refine Lib.wpList_append_own_string _ rfl _ _ 49 9 rfl B 5 i0 Tryz.underlying49 Tryz.underlying9 HI.out HZ.out.1 HZ.out.2.1 HZ.out.2.2 v l.length (Lib.byteCells l) rfl HO.out s rfl (by unfold maxLen; omega) (by omega) hB ?_; intro v' w1 hown1 hgrow _; obtain ⟨p', n', c', rfl⟩ := slice_of_own hown1; have HG := Lib.hid hgrow; have HO1 := Lib.hid hown1; have hb1 := (hgrow.block b c2 (fun e => HN.out e.symm)); have c3 : w1.cell? ⟨b, 0, none⟩ = some v := (World.cell?_of_block hb1).trans c0; have c4 : w1.frozen? ⟨b, 0, none⟩ = false := (World.frozen?_of_block hb1).trans c1; have HB1 := Lib.hid (hb1.trans HV.out); clear hgrow hown1 hb1))
  go_end0
  have hne1 := own_other HO1.out HB1.out (by decide)
  refine ⟨rfl, ⟨hb, _, one_setCell HB1.out, ?_, hne1⟩, ?_⟩
  · have h2 := ownsRow_setCell_other HO1.out (a := ⟨b, 0, none⟩) hne1 (.slice p' n' c')
    have e1 : (l ++ s.data.toList).length = l.length + s.size := by simp
    have e2 : Lib.byteCells (l ++ s.data.toList) = Lib.byteCells l ++ Lib.strCells s := by simp [Lib.byteCells, Lib.strCells]
    rw [e1, e2]
    exact h2
  · exact ((Below.refl _ _).grown HG.out hB (fun k hk => own_ge HO.out hk)).setCell (by exact hb) _
theorem jesL_len (s : ByteArray) : (jesL s).length ≤ 882 * s.size + 48 := by
  have h0 := norm_len s.size s (Nat.le_refl _)
  have h1 := jes_len (norm s)
  have h2 := replaceAll_len (jes (norm s)) [226, 128, 168] [92, 117, 50, 48, 50, 56]
  have h3 := replaceAll_len (Lib.replaceAll (jes (norm s)) [226, 128, 168] [92, 117, 50, 48, 50, 56]) [226, 128, 169] [92, 117, 50, 48, 50, 57]
  simp only [List.length_cons, List.length_nil] at h2 h3
  unfold jesL
  omega
theorem jesc_len (s : ByteArray) : (jesc s).size = (jesL s).length := by show (jesL s).toArray.size = _; simp
theorem q_list (a : ByteArray) (x y : UInt8) : (((⟨#[x]⟩ : ByteArray) ++ a) ++ ⟨#[y]⟩).data.toList = [x] ++ a.data.toList ++ [y] := by simp
theorem q_size (a : ByteArray) (x y : UInt8) : (((⟨#[x]⟩ : ByteArray) ++ a) ++ ⟨#[y]⟩).size = a.size + 2 := by
  have h := congrArg List.length (q_list a x y)
  simp only [List.length_append, List.length_cons, List.length_nil] at h
  have h1 : ∀ s : ByteArray, s.data.toList.length = s.size := fun s => by simp
  rw [h1, h1] at h
  omega
/-- A text as one of JSON. -/
def jtext (t : ByteArray) : List UInt8 := [34] ++ jesL t ++ [34]
set_option maxHeartbeats 1000000 in
set_option maxRecDepth 100000 in
theorem writer_text (B b : Nat) (l : List UInt8) (t : ByteArray) (m : Int) (w : World) (hE : Env m w) (h : WrAt B b l w) (ht : t.size ≤ 65536) (hlen : l.length ≤ 1099511627776) (hB : B ≤ w.heap.size) :
    Calls Tryz.prog 147 #[.pointer (some ⟨b, 0, none⟩), .string t] w (AddPost B b (l ++ jtext t) w) := by
  have HE := Lib.hid hE
  have HW := Lib.hid h
  have hz := jesL_len t
  rw [← jesc_len] at hz
  have z1 : ¬ 9223372036854775807 < 1 + (jesc t).size := by omega
  have z2 : ¬ 9223372036854775807 < 1 + (jesc t).size + 1 := by omega
  clear hE h
  go_enter Tryz.func147, Tryz.ntmps147
  go_wp2_with (first | (go_at_call 30; refine (jstr_Escape t m _ HE.out (by omega)).mono ?_; rintro e w1 ⟨rfl, hb1⟩) | (go_at_call 145; refine (writer_add _ _ l _ _ (HW.out.below hb1) (by rw [q_size]; omega) (by have := hb1.size; omega)).mono ?_; rintro e w2 ⟨rfl, hw2, hb2⟩))
  go_end0
  refine ⟨rfl, ?_, (hb1.mono hB).trans hb2⟩
  rw [q_list] at hw2
  have e : (jesc t).data.toList = jesL t := by simp [jesc]
  rw [e] at hw2
  exact hw2
theorem own_slice {w : World} {base n : Nat} {e : TypeId} {sz : Nat} {v : Value} {xs : List Value} (h : w.ownsRow base e sz v n xs) : ∃ p c, v = .slice p n c := by
  obtain ⟨_, ⟨rfl, rfl⟩ | ⟨g, cap, cur, rfl, _⟩⟩ := h
  · exact ⟨_, _, rfl⟩
  · exact ⟨_, _, rfl⟩
def tooMuch (l : List UInt8) : Bool := decide (65536 < (l.length : Int))
set_option maxHeartbeats 1000000 in
set_option maxRecDepth 100000 in
theorem writer_full (B b : Nat) (l : List UInt8) (w : World) (h : WrAt B b l w) : Calls Tryz.prog 91 #[.pointer (some ⟨b, 0, none⟩)] w fun e w' => e = .returned (.bool (tooMuch l)) ∧ w = w' := by
  obtain ⟨hb, v, hv, hown, hne⟩ := h
  obtain ⟨p, c, rfl⟩ := own_slice hown
  have c0 := cell_of_one hv
  clear hv hown hne
  go_enter Tryz.func91, Tryz.ntmps91
  go_wp2
  go_ret
  exact ⟨by simp [tooMuch], rfl⟩
theorem conv_own {w : World} {B : Nat} {v : Value} {l : List UInt8} (h : w.ownsRow B 5 1 v l.length (Lib.byteCells l)) : (convert 49 9 v).run Tryz.prog w = .ok (.string ⟨l.toArray⟩) w := by
  obtain ⟨hlen, ⟨rfl, hn⟩ | ⟨g, cap, cur, rfl, _, hg, hnc, _, hcs, htk⟩⟩ := h
  · have hl : l = [] := List.eq_nil_of_length_eq_zero hn
    subst hl
    exact run_convert_bytes_nil w 49 5 Tryz.underlying49 Tryz.underlying5 0 0 9 Tryz.underlying9
  · refine run_convert_bytes_back w 49 9 5 ⟨g, 0, none⟩ cap l Tryz.underlying49 Tryz.underlying5 Tryz.underlying9 (fun j hj => ?_)
    have hadd : (⟨g, 0, none⟩ : Addr).add j = ⟨g, j, none⟩ := by unfold Addr.add; split <;> simp_all
    rw [hadd]
    have h1 : cur.toList[j]? = some (.int .u8 (l[j].toNat : Int)) := by
      have h2 : (cur.toList.take (l.length * 1))[j]? = (Lib.byteCells l)[j]? := by rw [htk]
      rw [List.getElem?_take_of_lt (by omega)] at h2
      rw [h2]
      simp [Lib.byteCells, hj]
    simp only [World.cell?, hg]
    simpa using h1
end Go.Proofs.YtokclcilpekfiaaGreatDoor
