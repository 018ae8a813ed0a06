/- Contracts of package ctx: Start, Text. Condition: none but the kind of its arguments. -/
import Derived.Test.YtokclcilpekfiaaGreatDoorStep
import Derived.LoopTactic
namespace Go.Proofs.YtokclcilpekfiaaGreatDoor
open Go.RowKit
set_option linter.unusedVariables false
set_option linter.unusedSimpArgs false
set_option maxHeartbeats 1000000 in
set_option maxRecDepth 100000 in
theorem ctx_Start (w : World) : Calls Tryz.prog 21 #[] w fun e w' => e = .returned (Cx.val Cx.zero) ∧ Below w.heap.size w w' := by
  go_enter Tryz.func21, Tryz.ntmps21
  go_wp2
  refine bodyPost_ret (v := Cx.val Cx.zero) (by simp [results, Tryz.results21, go_sem, Cx.zero, St.zero]) rfl ⟨rfl, ?_⟩
  with_reducible (repeat (first | refine Below.setCell ?_ (by first | exact Nat.le_refl _ | (simp; done) | (simp; omega) | omega) _ | refine Below.drew ?_ | refine below_drewN ?_ _ | refine Below.alloc ?_ (by first | exact Nat.le_refl _ | (simp; done) | (simp; omega) | omega) _ | exact Below.refl _ _ | refine Below.trans ?_ (Below.mono (by assumption) (by first | exact Nat.le_refl _ | (simp; done) | (simp; omega) | omega))))

theorem lNext_range (l : Int) (js : Bool) (c : Int) (h0 : 0 ≤ l) (h1 : l ≤ 9) : 0 ≤ lNext l js c ∧ lNext l js c ≤ 9 := by
  have hc : 0 ≤ lCode js c ∧ lCode js c ≤ 9 := by unfold lCode; (repeat' split) <;> omega
  have ht : ∀ q sl : Int, 0 ≤ sl → sl ≤ 9 → 0 ≤ lText l c q sl ∧ lText l c q sl ≤ 9 := by intro q sl a b; unfold lText; (repeat' split) <;> omega
  have hs : 0 ≤ lSlash js c ∧ lSlash js c ≤ 9 := by unfold lSlash; (repeat' split) <;> omega
  have hl : 0 ≤ lLine js c ∧ lLine js c ≤ 9 := by unfold lLine; split <;> omega
  have hb : 0 ≤ lBlock c ∧ lBlock c ≤ 9 := by unfold lBlock; split <;> omega
  have hbs : 0 ≤ lBlockStar c ∧ lBlockStar c ≤ 9 := by unfold lBlockStar; split <;> omega
  have h3 := ht 34 3 (by omega) (by omega)
  have h4 := ht 39 4 (by omega) (by omega)
  unfold lNext
  split <;> omega
theorem cStep_lang (c : Cx) (x : Int) (h0 : 0 ≤ c.lang) (h1 : c.lang ≤ 9) : 0 ≤ (cStep c x).1.lang ∧ (cStep c x).1.lang ≤ 9 := by
  have := lNext_range c.lang (c.kind == 2) x h0 h1
  unfold cStep
  dsimp only
  repeat' split
  all_goals (first | omega | (dsimp only; omega) | (dsimp only; split <;> omega))
theorem cMay_lang (c : Cx) (h : cMay c = true) : 0 ≤ c.lang ∧ c.lang ≤ 9 := by
  unfold cMay at h
  simp only [Bool.and_eq_true, decide_eq_true_eq] at h
  exact ⟨h.2.2.2.2.2.2.2.1, h.2.2.2.2.2.2.2.2⟩
theorem cSteps_append : ∀ (l r : List UInt8) (c c' : Cx), cSteps c l = (c', 0) → cSteps c (l ++ r) = cSteps c' r
  | [], r, c, c', h => by
    simp only [cSteps, Prod.mk.injEq] at h
    rw [h.1]; rfl
  | x :: l, r, c, c', h => by
    simp only [cSteps, List.cons_append] at h ⊢
    by_cases h0 : ((cStep c x.toNat).2 == 0) = true
    · rw [if_pos h0] at h ⊢
      exact cSteps_append l r _ _ h
    · rw [if_neg h0] at h
      simp at h0
      simp [h0] at h
theorem cSteps_snoc (c c' : Cx) (s : ByteArray) (k : Nat) (hk : k < s.size) (h : cSteps c (s.data.toList.take k) = (c', 0)) (h0 : (cStep c' (s[k].toNat : Int)).2 = 0) :
    cSteps c (s.data.toList.take (k + 1)) = ((cStep c' (s[k].toNat : Int)).1, 0) := by
  rw [List.take_succ_eq_append_getElem (by simpa using hk), cSteps_append _ _ _ _ h]
  show cSteps c' [s[k]] = _
  simp [cSteps, h0]
theorem cSteps_end (c c' : Cx) (s : ByteArray) (k : Nat) (hk : k < s.size) (h : cSteps c (s.data.toList.take k) = (c', 0)) (h0 : (cStep c' (s[k].toNat : Int)).2 ≠ 0) :
    cSteps c s.data.toList = (Cx.zero, (cStep c' (s[k].toNat : Int)).2) := by
  have e : s.data.toList = s.data.toList.take k ++ (s[k] :: s.data.toList.drop (k + 1)) := by
    conv => lhs; rw [← List.take_append_drop k s.data.toList]
    rw [List.drop_eq_getElem_cons (by simpa using hk)]
    rfl
  rw [e, cSteps_append _ _ _ _ h]
  simp [cSteps, h0]
end Go.Proofs.YtokclcilpekfiaaGreatDoor
