/- Contracts of package utf: sign, Norm. Conditions: the tables of unicode/utf8 lie as their text lays them; a text is shorter than 2^40. -/
import Derived.Test.YtokclcilpekfiaaGreatDoorBld
import Derived.Test.YtokclcilpekfiaaGreatDoorBase
import Derived.LoopTactic
import Derived.Lib.QuoteLoop
import Derived.Lib.RuneCount
namespace Go.Proofs.YtokclcilpekfiaaGreatDoor
open Go.RowKit
set_option linter.unusedVariables false
set_option linter.unusedSimpArgs false

/-- What the library's variables hold. -/
structure Env (m : Int) (w : World) : Prop where
  tabs : Lib.Utf8Tabs 3 4 w
  max : w.cell? ⟨1, 0, none⟩ = some (.int .i64 m)
theorem Env.lt {m : Int} {w : World} (h : Env m w) : 1 < w.heap.size ∧ 3 < w.heap.size ∧ 4 < w.heap.size :=
  ⟨World.block_lt_of_cell? w ⟨_, 0, none⟩ h.max, World.block_lt_of_cell? w ⟨_, 0, none⟩ (h.tabs.1 0 (by decide)), World.block_lt_of_cell? w ⟨_, _, none⟩ (h.tabs.2 0 (by decide)).1⟩
theorem Env.of_cells {m : Int} {w w' : World} (h : Env m w) (hc : ∀ b o, b < w.heap.size → w'.cell? ⟨b, o, none⟩ = w.cell? ⟨b, o, none⟩) : Env m w' := by
  obtain ⟨l1, l2, l3⟩ := h.lt
  refine ⟨⟨fun c hc' => ?_, fun i hi => ⟨?_, ?_⟩⟩, ?_⟩
  · rw [hc _ _ l2]; exact h.tabs.1 c hc'
  · rw [hc _ _ l3]; exact (h.tabs.2 i hi).1
  · rw [hc _ _ l3]; exact (h.tabs.2 i hi).2
  · rw [hc _ _ l1]; exact h.max
theorem Env.below {m : Int} {w w' : World} (h : Env m w) (hb : Below w.heap.size w w') : Env m w' := h.of_cells fun b o hl => hb.cell (p := ⟨b, o, none⟩) hl

/-- How long a text's first sign is; 0: there is none. -/
def sgn (s : ByteArray) : Nat := if (Lib.decodeGo s).1 = 0 ∨ ((Lib.decodeGo s).1 = 65533 ∧ (Lib.decodeGo s).2 = 1) then 0 else (Lib.decodeGo s).2
theorem sgn_le (s : ByteArray) (h : 0 < s.size) : sgn s ≤ s.size := by
  unfold sgn
  split
  · omega
  · unfold Lib.decodeGo
    rw [if_neg (by omega)]
    exact Lib.width_le s h
def normF : Nat → ByteArray → List UInt8
  | 0, _ => []
  | n + 1, s => if s.size = 0 then [] else if sgn s = 0 then [239, 191, 189] ++ normF n (s.extract 1 s.size) else (s.extract 0 (sgn s)).data.toList ++ normF n (s.extract (sgn s) s.size)
theorem normF_succ (n : Nat) (s : ByteArray) : normF (n + 1) s = if s.size = 0 then [] else if sgn s = 0 then [239, 191, 189] ++ normF n (s.extract 1 s.size) else (s.extract 0 (sgn s)).data.toList ++ normF n (s.extract (sgn s) s.size) := rfl
/-- A text of any bytes. -/
def norm (s : ByteArray) : List UInt8 := normF s.size s
theorem normF_enough : ∀ (n : Nat) (s : ByteArray), s.size ≤ n → normF n s = normF s.size s := by
  intro n
  induction n using Nat.strongRecOn with
  | _ n ih =>
    intro s hs
    match n, hs with
    | 0, hs => rw [Nat.le_zero.1 hs]
    | n + 1, hs =>
      by_cases h0 : s.size = 0
      · rw [h0]; simp [normF, h0]
      · obtain ⟨k, hk⟩ : ∃ k, s.size = k + 1 := ⟨s.size - 1, by omega⟩
        have hl := sgn_le s (by omega)
        conv => rhs; rw [hk]
        rw [normF_succ, normF_succ, if_neg h0, if_neg h0]
        by_cases h1 : sgn s = 0
        · rw [if_pos h1, if_pos h1, ih n (by omega) _ (by simp; omega)]
          by_cases hkn : k = n
          · rw [hkn, ih n (by omega) _ (by simp; omega)]
          · rw [ih k (by omega) _ (by simp; omega)]
        · rw [if_neg h1, if_neg h1, ih n (by omega) _ (by simp; omega)]
          by_cases hkn : k = n
          · rw [hkn, ih n (by omega) _ (by simp; omega)]
          · rw [ih k (by omega) _ (by simp; omega)]
theorem norm_nil (s : ByteArray) (h : s.size = 0) : norm s = [] := by unfold norm; rw [h]; rfl
theorem norm_bad (s : ByteArray) (h : 0 < s.size) (h1 : sgn s = 0) : norm s = [239, 191, 189] ++ norm (s.extract 1 s.size) := by
  obtain ⟨k, hk⟩ : ∃ k, s.size = k + 1 := ⟨s.size - 1, by omega⟩
  unfold norm
  conv => lhs; rw [hk]
  rw [normF_succ, if_neg (by omega), if_pos h1, normF_enough k _ (by simp; omega)]
theorem norm_good (s : ByteArray) (h : 0 < s.size) (h1 : sgn s ≠ 0) : norm s = (s.extract 0 (sgn s)).data.toList ++ norm (s.extract (sgn s) s.size) := by
  obtain ⟨k, hk⟩ : ∃ k, s.size = k + 1 := ⟨s.size - 1, by omega⟩
  have hl := sgn_le s h
  unfold norm
  conv => lhs; rw [hk]
  rw [normF_succ, if_neg (by omega), if_neg h1, normF_enough k _ (by simp; omega)]
theorem norm_len : ∀ (n : Nat) (s : ByteArray), s.size ≤ n → (norm s).length ≤ 3 * s.size := by
  intro n
  induction n with
  | zero => intro s hs; rw [norm_nil s (by omega)]; simp
  | succ n ih =>
    intro s hs
    by_cases h0 : s.size = 0
    · rw [norm_nil s h0]; simp
    · have hl := sgn_le s (by omega)
      by_cases h1 : sgn s = 0
      · rw [norm_bad s (by omega) h1]
        have := ih (s.extract 1 s.size) (by simp; omega)
        simp at this ⊢
        omega
      · rw [norm_good s (by omega) h1]
        have := ih (s.extract (sgn s) s.size) (by simp; omega)
        simp at this ⊢
        omega
set_option maxHeartbeats 1000000 in
set_option maxRecDepth 100000 in
theorem utf_sign (s : ByteArray) (m : Int) (w : World) (hE : Env m w) : Calls Tryz.prog 85 #[.string s] w fun e w' => e = .returned (.int .i64 (sgn s : Nat)) ∧ Below w.heap.size w w' := by
  have HE := Lib.hid hE
  clear hE
  rcases Bool.eq_false_or_eq_true ((((Lib.decodeGo s).1 : Nat) : Int) == 0) with k0 | k0 <;> rcases Bool.eq_false_or_eq_true ((((Lib.decodeGo s).1 : Nat) : Int) == 65533) with k1 | k1 <;> rcases Bool.eq_false_or_eq_true ((((Lib.decodeGo s).2 : Nat) : Int) == 1) with k2 | k2
  all_goals
    go_enter Tryz.func85, Tryz.ntmps85
    go_wp2_with (first | (go_at_call 141; refine (Tryz.utf8_DecodeRuneInString _ _ HE.out.tabs).mono ?_; rintro e w1 ⟨rfl, hb1⟩))
    go_ret
    simp at k0 k1 k2
    refine ⟨?_, hb1⟩
    first
      | (exfalso; omega)
      | (unfold sgn; first | (rw [if_pos (by omega)]; simp) | (rw [if_neg (by omega)]; simp))
theorem one_le_max (s : ByteArray) : 0 ≤ (s.size : Int) := by omega
theorem str_ne (s : ByteArray) (h : 0 < s.size) : (!s.toList.isEmpty) = true ∧ s.toList.isEmpty = false := by
  have h1 : s.toList = s.data.toList := Lib.toList_data s
  have h2 : s.data.toList.length = s.size := by simp
  cases h3 : s.data.toList with
  | nil => rw [h3] at h2; simp at h2; omega
  | cons a l => rw [h1, h3]; simp
theorem str_nil (s : ByteArray) (h : s.size = 0) : s.toList = [] := by
  have h1 : s.toList = s.data.toList := Lib.toList_data s
  rw [h1]
  exact List.eq_nil_of_length_eq_zero (by simpa using h)
def normB (s : ByteArray) : ByteArray := ⟨(norm s).toArray⟩
theorem normB_list (s : ByteArray) : (normB s).data.toList = norm s := by simp [normB]
theorem normB_len (s : ByteArray) : (normB s).size = (norm s).length := by rw [← normB_list]; simp
theorem normB_le (s : ByteArray) : (normB s).size ≤ 3 * s.size := by rw [normB_len]; exact norm_len s.size s (Nat.le_refl _)
def NormPost (s : ByteArray) (w : World) (e : Ending) (w' : World) : Prop := e = .returned (.string (normB s)) ∧ Below w.heap.size w w'
def NormRel (m : Int) (s : ByteArray) (w : World) (v : Value) (wr : World) : Prop :=
  ∃ (r : ByteArray) (l : List UInt8), v = .string r ∧ l ++ norm r = norm s ∧ YtokclcilpekfiaaGreatDoor.Bld w.heap.size w.heap.size l wr ∧ Below w.heap.size w wr ∧ w.heap.size < wr.heap.size ∧ l.length + 3 * r.size ≤ 3 * s.size ∧ r.size ≤ s.size
def strLen : Value → Nat | .string r => r.size | _ => 0
set_option maxHeartbeats 1000000 in
set_option maxRecDepth 100000 in
theorem utf_Norm (s : ByteArray) (m : Int) (w : World) (hE : Env m w) (hs : s.size ≤ 1099511627776) : Calls Tryz.prog 50 #[.string s] w (NormPost s w) := by
  have HE := Lib.hid hE
  clear hE
  have HF := Lib.hid (YtokclcilpekfiaaGreatDoor.bld_fresh w)
  go_enter Tryz.func50, Tryz.ntmps50
  go_wp2
  go_loopw [0] (fun v wr => NormRel m s w v wr) (fun v _ => strLen v)
  case atStart => exact ⟨s, [], rfl, rfl, HF.out, below_alloc1 _ _, by simp, by simp, Nat.le_refl _⟩
  case round =>
    obtain ⟨r, l, rfl, hl, hB, hbw, hsz, hlen, hle⟩ := hrel
    have HL := Lib.hid hl
    have HB := Lib.hid hB
    have HW := Lib.hid hbw
    clear hl hB hbw
    by_cases h0 : 0 < r.size
    · obtain ⟨n1, n2⟩ := str_ne r h0
      have hsg := sgn_le r h0
      have i1 : 0 ≤ ((sgn r : Nat) : Int) := by omega
      have i2 : ((sgn r : Nat) : Int) ≤ (r.size : Int) := by omega
      have i3 : (1 : Int) ≤ (r.size : Int) := by omega
      rcases Bool.eq_false_or_eq_true (((sgn r : Nat) : Int) == 0) with k0 | k0
      · go_wp2_with (first | (go_at_call 85; refine (utf_sign _ m _ (HE.out.below HW.out)).mono ?_; rintro e w1 ⟨rfl, hb1⟩; have hs1 := hb1.size) | (go_at_call 52; refine (YtokclcilpekfiaaGreatDoor.bld_string _ _ l ⟨#[239, 191, 189]⟩ _ (YtokclcilpekfiaaGreatDoor.bld_below HB.out hb1) (by first | (show l.length + 3 ≤ _; omega) | (simp; omega)) (by omega)).mono ?_; rintro e w2 ⟨rfl, hB2, hb2⟩))
        refine ⟨⟨r.extract 1 r.size, l ++ [239, 191, 189], rfl, ?_, hB2, (HW.out.trans (hb1.mono (by omega))).trans hb2, by have := hb2.size; omega, by simp; omega, by simp; omega⟩, by simp [strLen]; omega⟩
        rw [List.append_assoc, ← norm_bad r h0 (by simpa using k0)]
        exact HL.out
      · go_wp2_with (first | (go_at_call 85; refine (utf_sign _ m _ (HE.out.below HW.out)).mono ?_; rintro e w1 ⟨rfl, hb1⟩; have hs1 := hb1.size) | (go_at_call 52; refine (YtokclcilpekfiaaGreatDoor.bld_string _ _ l _ _ (YtokclcilpekfiaaGreatDoor.bld_below HB.out hb1) (by first | (show l.length + 3 ≤ _; omega) | (simp; omega)) (by omega)).mono ?_; rintro e w2 ⟨rfl, hB2, hb2⟩))
        have k0' : sgn r ≠ 0 := by simpa using k0
        refine ⟨⟨r.extract (sgn r) r.size, l ++ (r.extract 0 (sgn r)).data.toList, rfl, ?_, hB2, (HW.out.trans (hb1.mono (by omega))).trans hb2, by have := hb2.size; omega, by simp; omega, by simp; omega⟩, by simp [strLen]; omega⟩
        rw [List.append_assoc, ← norm_good r h0 k0']
        exact HL.out
    · have n0 := str_nil r (by omega)
      go_wp2_with (first | (go_at_call 54; refine (YtokclcilpekfiaaGreatDoor.bld_text _ _ l _ HB.out (by omega)).mono ?_; rintro e w2 ⟨rfl, hb2⟩))
      go_ret
      have hl := HL.out
      rw [norm_nil r (by omega), List.append_nil] at hl
      subst hl
      exact ⟨by simp [normB], HW.out.trans hb2⟩
end Go.Proofs.YtokclcilpekfiaaGreatDoor
