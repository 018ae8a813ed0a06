/- The law HoleStates: it is true at every number. Condition: the library's variables lie as their text lays them. -/
import Derived.Test.YtokclcilpekfiaaGreatDoorAwake
import Derived.LoopTactic
import Derived.Deep.WholeRow
import Derived.Deep.DeepCutAuto
namespace Go.Proofs.YtokclcilpekfiaaGreatDoor
open Go.RowKit
set_option linter.unusedVariables false
set_option linter.unusedSimpArgs false
def hsPages : List ByteArray := [(⟨#[]⟩ : ByteArray), (⟨#[120]⟩ : ByteArray), (⟨#[60, 98, 62]⟩ : ByteArray), (⟨#[97, 38, 108, 116, 59]⟩ : ByteArray), (⟨#[60, 116, 105, 116, 108, 101, 62]⟩ : ByteArray), (⟨#[60, 116, 101, 120, 116, 97, 114, 101, 97, 62, 120]⟩ : ByteArray), (⟨#[60, 112, 32, 116, 105, 116, 108, 101, 61, 34]⟩ : ByteArray), (⟨#[60, 112, 32, 116, 105, 116, 108, 101, 61, 39, 97]⟩ : ByteArray), (⟨#[60, 47, 112, 32, 116, 105, 116, 108, 101, 61, 39]⟩ : ByteArray), (⟨#[60, 97, 32, 104, 114, 101, 102, 61, 39, 47]⟩ : ByteArray), (⟨#[60, 97, 32, 104, 114, 101, 102, 61, 39, 120, 58]⟩ : ByteArray), (⟨#[60, 97, 32, 104, 114, 101, 102, 61, 39, 63]⟩ : ByteArray), (⟨#[60, 97, 32, 104, 114, 101, 102, 61, 39, 32]⟩ : ByteArray), (⟨#[60, 98, 32, 111, 110, 120, 61, 34]⟩ : ByteArray), (⟨#[60, 98, 32, 111, 110, 120, 61, 34, 39]⟩ : ByteArray), (⟨#[60, 98, 32, 111, 110, 120, 61, 39, 34, 97, 92, 34]⟩ : ByteArray), (⟨#[60, 98, 32, 115, 116, 121, 108, 101, 61, 39]⟩ : ByteArray), (⟨#[60, 115, 99, 114, 105, 112, 116, 62]⟩ : ByteArray), (⟨#[60, 115, 99, 114, 105, 112, 116, 62, 39]⟩ : ByteArray), (⟨#[60, 115, 99, 114, 105, 112, 116, 62, 47, 47, 10]⟩ : ByteArray), (⟨#[60, 115, 99, 114, 105, 112, 116, 62, 47, 42, 42, 47]⟩ : ByteArray), (⟨#[60, 115, 116, 121, 108, 101, 62]⟩ : ByteArray), (⟨#[60, 115, 116, 121, 108, 101, 62, 47, 42, 32, 42, 47]⟩ : ByteArray), (⟨#[60, 115, 99, 114, 105, 112, 116, 62, 120, 60, 98]⟩ : ByteArray), (⟨#[38, 97, 109, 112]⟩ : ByteArray), (⟨#[97, 38, 35, 49]⟩ : ByteArray), (⟨#[60, 116, 105, 116, 108, 101, 62, 38]⟩ : ByteArray), (⟨#[60, 112, 32, 116, 105, 116, 108, 101, 61, 39, 38]⟩ : ByteArray), (⟨#[60]⟩ : ByteArray), (⟨#[60, 47]⟩ : ByteArray), (⟨#[60, 112]⟩ : ByteArray), (⟨#[60, 112, 32]⟩ : ByteArray), (⟨#[60, 112, 32, 97]⟩ : ByteArray), (⟨#[60, 112, 32, 97, 32]⟩ : ByteArray), (⟨#[60, 112, 32, 97, 61]⟩ : ByteArray), (⟨#[60, 112, 32, 97, 61, 120]⟩ : ByteArray), (⟨#[60, 112, 32, 97, 61, 39, 120, 39]⟩ : ByteArray), (⟨#[60, 112, 47]⟩ : ByteArray), (⟨#[60, 33]⟩ : ByteArray), (⟨#[60, 33, 45]⟩ : ByteArray), (⟨#[60, 33, 45, 45]⟩ : ByteArray), (⟨#[60, 33, 45, 45, 32, 45]⟩ : ByteArray), (⟨#[60, 33, 45, 45, 32, 45, 45]⟩ : ByteArray), (⟨#[60, 33, 120]⟩ : ByteArray), (⟨#[60, 115, 99, 114, 105, 112, 116, 62, 60]⟩ : ByteArray), (⟨#[60, 115, 99, 114, 105, 112, 116, 62, 60, 47]⟩ : ByteArray), (⟨#[60, 115, 99, 114, 105, 112, 116, 62, 60, 47, 115]⟩ : ByteArray), (⟨#[60, 116, 105, 116, 108, 101, 62, 60, 47, 116, 105, 116, 108, 101]⟩ : ByteArray), (⟨#[60, 97, 32, 104, 114, 101, 102, 61, 39, 120]⟩ : ByteArray), (⟨#[60, 97, 32, 104, 114, 101, 102, 61, 39, 38]⟩ : ByteArray), (⟨#[60, 115, 99, 114, 105, 112, 116, 62, 47]⟩ : ByteArray), (⟨#[60, 115, 99, 114, 105, 112, 116, 62, 47, 47]⟩ : ByteArray), (⟨#[60, 115, 99, 114, 105, 112, 116, 62, 47, 42]⟩ : ByteArray), (⟨#[60, 115, 99, 114, 105, 112, 116, 62, 47, 97, 47]⟩ : ByteArray), (⟨#[60, 115, 99, 114, 105, 112, 116, 62, 96]⟩ : ByteArray), (⟨#[60, 115, 99, 114, 105, 112, 116, 62, 39, 92]⟩ : ByteArray), (⟨#[60, 115, 99, 114, 105, 112, 116, 62, 39, 10]⟩ : ByteArray), (⟨#[60, 115, 116, 121, 108, 101, 62, 39]⟩ : ByteArray), (⟨#[60, 115, 116, 121, 108, 101, 62, 92]⟩ : ByteArray), (⟨#[60, 98, 32, 111, 110, 120, 61, 39, 38, 59]⟩ : ByteArray), (⟨#[60, 98, 32, 115, 116, 121, 108, 101, 61, 39, 34]⟩ : ByteArray)]
def hsEscs : List Int := [0, 0, 0, 0, 0, 0, 0, 0, 0, 2, 2, 2, 1, 6, 7, 7, 8, 3, 4, 3, 3, 5, 5, 3]
def hsPage (k : Nat) : ByteArray := hsPages.getD k ⟨#[]⟩
def hsEsc (k : Nat) : Int := hsEscs.getD k 0
theorem hs_0 (k : Nat) (h0 : 0 ≤ k) (h1 : k < 24) : holeOfM (hsPage k) = (hsEsc k, 0) := by
  have h : ∀ x : Fin 24, holeOfM (hsPage (x.val + 0)) = (hsEsc (x.val + 0), 0) := by decide +kernel
  have h2 := h ⟨k - 0, by omega⟩
  simpa only [show k - 0 + 0 = k by omega] using h2
theorem hs_1 (k : Nat) (h0 : 24 ≤ k) (h1 : k < 28) : (holeOfM (hsPage k)).2 = 2002 := by
  have h : ∀ x : Fin 4, (holeOfM (hsPage (x.val + 24))).2 = 2002 := by decide +kernel
  have h2 := h ⟨k - 24, by omega⟩
  simpa only [show k - 24 + 24 = k by omega] using h2
theorem hs_2 (k : Nat) (h0 : 28 ≤ k) (h1 : k < 48) : (holeOfM (hsPage k)).2 = 2001 := by
  have h : ∀ x : Fin 20, (holeOfM (hsPage (x.val + 28))).2 = 2001 := by decide +kernel
  have h2 := h ⟨k - 28, by omega⟩
  simpa only [show k - 28 + 28 = k by omega] using h2
theorem hs_3 (k : Nat) (h0 : 48 ≤ k) (h1 : k < 50) : (holeOfM (hsPage k)).2 = 2003 := by
  have h : ∀ x : Fin 2, (holeOfM (hsPage (x.val + 48))).2 = 2003 := by decide +kernel
  have h2 := h ⟨k - 48, by omega⟩
  simpa only [show k - 48 + 48 = k by omega] using h2
theorem hs_4 (k : Nat) (h0 : 50 ≤ k) (h1 : k < 61) : (holeOfM (hsPage k)).2 = 2004 := by
  have h : ∀ x : Fin 11, (holeOfM (hsPage (x.val + 50))).2 = 2004 := by decide +kernel
  have h2 := h ⟨k - 50, by omega⟩
  simpa only [show k - 50 + 50 = k by omega] using h2
theorem hs_size (k : Nat) (h : k < 61) : (hsPage k).size ≤ 281474976710656 := by
  have h : ∀ x : Fin 61, (hsPage x.val).size ≤ 281474976710656 := by decide +kernel
  exact h ⟨k, by assumption⟩
def hsPCells : Array Value := #[.string (⟨#[]⟩ : ByteArray), .string (⟨#[120]⟩ : ByteArray), .string (⟨#[60, 98, 62]⟩ : ByteArray), .string (⟨#[97, 38, 108, 116, 59]⟩ : ByteArray), .string (⟨#[60, 116, 105, 116, 108, 101, 62]⟩ : ByteArray), .string (⟨#[60, 116, 101, 120, 116, 97, 114, 101, 97, 62, 120]⟩ : ByteArray), .string (⟨#[60, 112, 32, 116, 105, 116, 108, 101, 61, 34]⟩ : ByteArray), .string (⟨#[60, 112, 32, 116, 105, 116, 108, 101, 61, 39, 97]⟩ : ByteArray), .string (⟨#[60, 47, 112, 32, 116, 105, 116, 108, 101, 61, 39]⟩ : ByteArray), .string (⟨#[60, 97, 32, 104, 114, 101, 102, 61, 39, 47]⟩ : ByteArray), .string (⟨#[60, 97, 32, 104, 114, 101, 102, 61, 39, 120, 58]⟩ : ByteArray), .string (⟨#[60, 97, 32, 104, 114, 101, 102, 61, 39, 63]⟩ : ByteArray), .string (⟨#[60, 97, 32, 104, 114, 101, 102, 61, 39, 32]⟩ : ByteArray), .string (⟨#[60, 98, 32, 111, 110, 120, 61, 34]⟩ : ByteArray), .string (⟨#[60, 98, 32, 111, 110, 120, 61, 34, 39]⟩ : ByteArray), .string (⟨#[60, 98, 32, 111, 110, 120, 61, 39, 34, 97, 92, 34]⟩ : ByteArray), .string (⟨#[60, 98, 32, 115, 116, 121, 108, 101, 61, 39]⟩ : ByteArray), .string (⟨#[60, 115, 99, 114, 105, 112, 116, 62]⟩ : ByteArray), .string (⟨#[60, 115, 99, 114, 105, 112, 116, 62, 39]⟩ : ByteArray), .string (⟨#[60, 115, 99, 114, 105, 112, 116, 62, 47, 47, 10]⟩ : ByteArray), .string (⟨#[60, 115, 99, 114, 105, 112, 116, 62, 47, 42, 42, 47]⟩ : ByteArray), .string (⟨#[60, 115, 116, 121, 108, 101, 62]⟩ : ByteArray), .string (⟨#[60, 115, 116, 121, 108, 101, 62, 47, 42, 32, 42, 47]⟩ : ByteArray), .string (⟨#[60, 115, 99, 114, 105, 112, 116, 62, 120, 60, 98]⟩ : ByteArray), .string (⟨#[38, 97, 109, 112]⟩ : ByteArray), .string (⟨#[97, 38, 35, 49]⟩ : ByteArray), .string (⟨#[60, 116, 105, 116, 108, 101, 62, 38]⟩ : ByteArray), .string (⟨#[60, 112, 32, 116, 105, 116, 108, 101, 61, 39, 38]⟩ : ByteArray), .string (⟨#[60]⟩ : ByteArray), .string (⟨#[60, 47]⟩ : ByteArray), .string (⟨#[60, 112]⟩ : ByteArray), .string (⟨#[60, 112, 32]⟩ : ByteArray), .string (⟨#[60, 112, 32, 97]⟩ : ByteArray), .string (⟨#[60, 112, 32, 97, 32]⟩ : ByteArray), .string (⟨#[60, 112, 32, 97, 61]⟩ : ByteArray), .string (⟨#[60, 112, 32, 97, 61, 120]⟩ : ByteArray), .string (⟨#[60, 112, 32, 97, 61, 39, 120, 39]⟩ : ByteArray), .string (⟨#[60, 112, 47]⟩ : ByteArray), .string (⟨#[60, 33]⟩ : ByteArray), .string (⟨#[60, 33, 45]⟩ : ByteArray), .string (⟨#[60, 33, 45, 45]⟩ : ByteArray), .string (⟨#[60, 33, 45, 45, 32, 45]⟩ : ByteArray), .string (⟨#[60, 33, 45, 45, 32, 45, 45]⟩ : ByteArray), .string (⟨#[60, 33, 120]⟩ : ByteArray), .string (⟨#[60, 115, 99, 114, 105, 112, 116, 62, 60]⟩ : ByteArray), .string (⟨#[60, 115, 99, 114, 105, 112, 116, 62, 60, 47]⟩ : ByteArray), .string (⟨#[60, 115, 99, 114, 105, 112, 116, 62, 60, 47, 115]⟩ : ByteArray), .string (⟨#[60, 116, 105, 116, 108, 101, 62, 60, 47, 116, 105, 116, 108, 101]⟩ : ByteArray), .string (⟨#[60, 97, 32, 104, 114, 101, 102, 61, 39, 120]⟩ : ByteArray), .string (⟨#[60, 97, 32, 104, 114, 101, 102, 61, 39, 38]⟩ : ByteArray), .string (⟨#[60, 115, 99, 114, 105, 112, 116, 62, 47]⟩ : ByteArray), .string (⟨#[60, 115, 99, 114, 105, 112, 116, 62, 47, 47]⟩ : ByteArray), .string (⟨#[60, 115, 99, 114, 105, 112, 116, 62, 47, 42]⟩ : ByteArray), .string (⟨#[60, 115, 99, 114, 105, 112, 116, 62, 47, 97, 47]⟩ : ByteArray), .string (⟨#[60, 115, 99, 114, 105, 112, 116, 62, 96]⟩ : ByteArray), .string (⟨#[60, 115, 99, 114, 105, 112, 116, 62, 39, 92]⟩ : ByteArray), .string (⟨#[60, 115, 99, 114, 105, 112, 116, 62, 39, 10]⟩ : ByteArray), .string (⟨#[60, 115, 116, 121, 108, 101, 62, 39]⟩ : ByteArray), .string (⟨#[60, 115, 116, 121, 108, 101, 62, 92]⟩ : ByteArray), .string (⟨#[60, 98, 32, 111, 110, 120, 61, 39, 38, 59]⟩ : ByteArray), .string (⟨#[60, 98, 32, 115, 116, 121, 108, 101, 61, 39, 34]⟩ : ByteArray)]
def hsECells : Array Value := #[.int .i64 0, .int .i64 0, .int .i64 0, .int .i64 0, .int .i64 0, .int .i64 0, .int .i64 0, .int .i64 0, .int .i64 0, .int .i64 2, .int .i64 2, .int .i64 2, .int .i64 1, .int .i64 6, .int .i64 7, .int .i64 7, .int .i64 8, .int .i64 3, .int .i64 4, .int .i64 3, .int .i64 3, .int .i64 5, .int .i64 5, .int .i64 3]
theorem hsP_at (k : Nat) (h : k < 61) : hsPCells[k]? = some (.string (hsPage k)) := by
  have e : hsPCells = (hsPages.map Value.string).toArray := rfl
  have hl : hsPages.length = 61 := rfl
  rw [e, List.getElem?_toArray, List.getElem?_map, List.getElem?_eq_getElem (by omega)]
  simp [hsPage, List.getElem?_eq_getElem (show k < hsPages.length by omega)]
theorem hsE_at (k : Nat) (h : k < 24) : hsECells[k]? = some (.int .i64 (hsEsc k)) := by
  have e : hsECells = (hsEscs.map (Value.int .i64)).toArray := rfl
  have hl : hsEscs.length = 24 := rfl
  rw [e, List.getElem?_toArray, List.getElem?_map, List.getElem?_eq_getElem (by omega)]
  simp [hsEsc, List.getElem?_eq_getElem (show k < hsEscs.length by omega)]
theorem two_new (w : World) (a b : Array Value) (s t : TypeId) (k : Nat) : ((w.alloc (.cells a s)).alloc (.cells b t)).cell? ⟨w.heap.size, k, none⟩ = a[k]? ∧ ((w.alloc (.cells a s)).alloc (.cells b t)).cell? ⟨w.heap.size + 1, k, none⟩ = b[k]? := by
  constructor
  · rw [(below_alloc1 (w.alloc (.cells a s)) (.cells b t)).cell (p := ⟨w.heap.size, k, none⟩) (by simp)]
    unfold World.cell?
    rw [heap_alloc_last]
    simp
  · have h := heap_alloc_last (w.alloc (.cells a s)) (.cells b t)
    rw [World.size_alloc] at h
    unfold World.cell?
    rw [h]
    simp
theorem mod61 (x : Int) : ∃ k : Nat, wrap64 ((IntKind.u64.wrap x).tmod 61) = (k : Int) ∧ k < 61 := by
  have h0 : 0 ≤ IntKind.u64.wrap x := by unfold IntKind.wrap; simp [IntKind.signed, IntKind.bits]; omega
  have h1 : (IntKind.u64.wrap x).tmod 61 = (IntKind.u64.wrap x) % 61 := Int.tmod_eq_emod_of_nonneg h0
  rw [h1]
  refine ⟨((IntKind.u64.wrap x) % 61).toNat, ?_, by omega⟩
  unfold wrap64
  omega

set_option maxHeartbeats 1000000 in
set_option maxRecDepth 100000 in
theorem law_HoleStates (x : Int) (m : Int) (w : World) (hE : Env m w) : Calls Tryz.prog 5 #[.int .i64 x] w fun e w' => e = .returned (.bool true) ∧ Below w.heap.size w w' := by
  have HE := Lib.hid hE
  clear hE
  go_enter Tryz.func5, Tryz.ntmps5
  go_upto_region 6 with (first | (go_at_call 10; refine (law_awake m _ HE.out).mono ?_; rintro e w1 ⟨rfl, hb1⟩))
  obtain ⟨k, hk, hk61⟩ := mod61 x
  rw [hk]
  clear hk
  have hs1 := hb1.size
  have q1 := (two_new w1 hsPCells hsECells 9 3 k).1.trans (hsP_at k hk61)
  have q2 : k < 24 → ((w1.alloc (.cells hsPCells 9)).alloc (.cells hsECells 3)).cell? ⟨w1.heap.size + 1, k, none⟩ = some (.int .i64 (hsEsc k)) := fun h => (two_new w1 hsPCells hsECells 9 3 k).2.trans (hsE_at k h)
  have qb : Below w.heap.size w ((w1.alloc (.cells hsPCells 9)).alloc (.cells hsECells 3)) := by with_reducible (repeat (first | refine Below.setCell ?_ (by first | exact Nat.le_refl _ | (simp; done) | (simp; omega) | omega) _ | refine Below.drew ?_ | refine below_drewN ?_ _ | refine Below.alloc ?_ (by first | exact Nat.le_refl _ | (simp; done) | (simp; omega) | omega) _ | exact Below.refl _ _ | refine Below.trans ?_ (Below.mono (by assumption) (by first | exact Nat.le_refl _ | (simp; done) | (simp; omega) | omega))))
  have qs : w1.heap.size + 1 + 1 = ((w1.alloc (.cells hsPCells 9)).alloc (.cells hsECells 3)).heap.size := by simp
  show Code.wp _ _ _ _ ((w1.alloc (.cells hsPCells 9)).alloc (.cells hsECells 3))
  generalize (w1.alloc (.cells hsPCells 9)).alloc (.cells hsECells 3) = W at q1 q2 qb qs ⊢
  have QB := Lib.hid qb
  have ql : w1.heap.size + 1 < W.heap.size := by omega
  have ql2 : w1.heap.size < W.heap.size := by omega
  clear qs
  have i0 : (k : Int) < 61 := by omega
  clear qb hb1
  rcases (show k < 24 ∨ (24 ≤ k ∧ k < 28) ∨ (28 ≤ k ∧ k < 48) ∨ (48 ≤ k ∧ k < 50) ∨ 50 ≤ k by omega) with h1 | ⟨h0, h1⟩ | ⟨h0, h1⟩ | ⟨h0, h1⟩ | h0
  · have f := hs_0 k (by omega) h1
    have f1 := congrArg Prod.fst f
    have f2 := congrArg Prod.snd f
    dsimp only at f1 f2
    have q3 := q2 h1
    clear q2 f
    have t1 : (k : Int) < 24 := by omega
    go_wp2_with (first | (go_at_call 17; refine (law_holeOf _ _ (hs_size k hk61)).mono ?_; rintro e w2 ⟨rfl, hb2⟩; have hc2 := bcell hb2))
    go_ret
    exact ⟨by simp, QB.out.trans (hb2.mono QB.out.size)⟩
  · have f2 := hs_1 k (by omega) (by omega)
    clear q2
    have t0 : ¬ (k : Int) < 24 := by omega
    have t1 : (k : Int) < 28 := by omega
    go_wp2_with (first | (go_at_call 17; refine (law_holeOf _ _ (hs_size k hk61)).mono ?_; rintro e w2 ⟨rfl, hb2⟩; have hc2 := bcell hb2))
    go_ret
    exact ⟨by simp, QB.out.trans (hb2.mono QB.out.size)⟩
  · have f2 := hs_2 k (by omega) (by omega)
    clear q2
    have t0 : ¬ (k : Int) < 24 := by omega
    have t1 : ¬ (k : Int) < 28 := by omega
    have t2 : (k : Int) < 48 := by omega
    go_wp2_with (first | (go_at_call 17; refine (law_holeOf _ _ (hs_size k hk61)).mono ?_; rintro e w2 ⟨rfl, hb2⟩; have hc2 := bcell hb2))
    go_ret
    exact ⟨by simp, QB.out.trans (hb2.mono QB.out.size)⟩
  · have f2 := hs_3 k (by omega) (by omega)
    clear q2
    have t0 : ¬ (k : Int) < 24 := by omega
    have t1 : ¬ (k : Int) < 28 := by omega
    have t2 : ¬ (k : Int) < 48 := by omega
    have t3 : (k : Int) < 50 := by omega
    go_wp2_with (first | (go_at_call 17; refine (law_holeOf _ _ (hs_size k hk61)).mono ?_; rintro e w2 ⟨rfl, hb2⟩; have hc2 := bcell hb2))
    go_ret
    exact ⟨by simp, QB.out.trans (hb2.mono QB.out.size)⟩
  · have f2 := hs_4 k (by omega) (by omega)
    clear q2
    have t0 : ¬ (k : Int) < 24 := by omega
    have t1 : ¬ (k : Int) < 28 := by omega
    have t2 : ¬ (k : Int) < 48 := by omega
    have t3 : ¬ (k : Int) < 50 := by omega
    have t4 : (k : Int) < 61 := by omega
    go_wp2_with (first | (go_at_call 17; refine (law_holeOf _ _ (hs_size k hk61)).mono ?_; rintro e w2 ⟨rfl, hb2⟩; have hc2 := bcell hb2))
    go_ret
    exact ⟨by simp, QB.out.trans (hb2.mono QB.out.size)⟩
end Go.Proofs.YtokclcilpekfiaaGreatDoor
