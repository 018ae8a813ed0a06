/- Contracts of package refs: written, Encode. Conditions as at utf.Norm. -/
import Derived.Test.YtokclcilpekfiaaGreatDoorUtf
namespace Go.Proofs.YtokclcilpekfiaaGreatDoor
open Go.RowKit
set_option linter.unusedVariables false
set_option linter.unusedSimpArgs false
def wrt (c : Int) : ByteArray := if c == 38 then (⟨#[38, 97, 109, 112, 59]⟩ : ByteArray) else if c == 60 then (⟨#[38, 108, 116, 59]⟩ : ByteArray) else if c == 62 then (⟨#[38, 103, 116, 59]⟩ : ByteArray) else if c == 34 then (⟨#[38, 113, 117, 111, 116, 59]⟩ : ByteArray) else if c == 39 then (⟨#[38, 35, 51, 57, 59]⟩ : ByteArray) else if c == 13 then (⟨#[38, 35, 49, 51, 59]⟩ : ByteArray) else ⟨#[]⟩
set_option maxHeartbeats 1000000 in
set_option maxRecDepth 100000 in
theorem refs_written (c : Int) (w : World) : Calls Tryz.prog 51 #[.int .u8 c] w fun e w' => e = .returned (.string (wrt c)) ∧ w = w' := by
  unfold wrt
  rcases Bool.eq_false_or_eq_true (c == 38) with h0 | h0
  · simp only [*, if_true, if_false, Bool.false_eq_true]
    go_enter Tryz.func51, Tryz.ntmps51
    go_wp2
    go_ret
    exact ⟨by simp [*], rfl⟩
  · skip
    rcases Bool.eq_false_or_eq_true (c == 60) with h1 | h1
    · simp only [*, if_true, if_false, Bool.false_eq_true]
      go_enter Tryz.func51, Tryz.ntmps51
      go_wp2
      go_ret
      exact ⟨by simp [*], rfl⟩
    · skip
      rcases Bool.eq_false_or_eq_true (c == 62) with h2 | h2
      · simp only [*, if_true, if_false, Bool.false_eq_true]
        go_enter Tryz.func51, Tryz.ntmps51
        go_wp2
        go_ret
        exact ⟨by simp [*], rfl⟩
      · skip
        rcases Bool.eq_false_or_eq_true (c == 34) with h3 | h3
        · simp only [*, if_true, if_false, Bool.false_eq_true]
          go_enter Tryz.func51, Tryz.ntmps51
          go_wp2
          go_ret
          exact ⟨by simp [*], rfl⟩
        · skip
          rcases Bool.eq_false_or_eq_true (c == 39) with h4 | h4
          · simp only [*, if_true, if_false, Bool.false_eq_true]
            go_enter Tryz.func51, Tryz.ntmps51
            go_wp2
            go_ret
            exact ⟨by simp [*], rfl⟩
          · skip
            rcases Bool.eq_false_or_eq_true (c == 13) with h5 | h5
            · simp only [*, if_true, if_false, Bool.false_eq_true]
              go_enter Tryz.func51, Tryz.ntmps51
              go_wp2
              go_ret
              exact ⟨by simp [*], rfl⟩
            · skip
              simp only [*, if_true, if_false, Bool.false_eq_true]
              go_enter Tryz.func51, Tryz.ntmps51
              go_wp2
              go_ret
              exact ⟨by simp [*], rfl⟩
def encB (b : UInt8) : List UInt8 := if (wrt (b.toNat : Int)).size = 0 then [b] else (wrt (b.toNat : Int)).data.toList
def enc (l : List UInt8) : List UInt8 := l.flatMap encB
def encS (s : ByteArray) : ByteArray := ⟨(enc (norm s)).toArray⟩
theorem wrt_le (c : Int) : (wrt c).size ≤ 6 := by
  unfold wrt
  repeat' split
  all_goals decide
theorem encB_le (b : UInt8) : (encB b).length ≤ 6 := by
  unfold encB
  have := wrt_le (b.toNat : Int)
  split
  · simp
  · simpa using this
theorem enc_len (l : List UInt8) : (enc l).length ≤ 6 * l.length := by
  induction l with
  | nil => simp [enc]
  | cons a l ih =>
    have := encB_le a
    unfold enc at ih ⊢
    simp only [List.flatMap_cons, List.length_append, List.length_cons]
    omega
theorem take_snoc (s : ByteArray) (k : Nat) (h : k < s.size) : s.data.toList.take (k + 1) = s.data.toList.take k ++ [s[k]] := by
  rw [List.take_succ_eq_append_getElem (by simpa using h)]; rfl
theorem enc_snoc (s : ByteArray) (k : Nat) (h : k < s.size) : enc (s.data.toList.take (k + 1)) = enc (s.data.toList.take k) ++ encB s[k] := by
  rw [take_snoc s k h]
  simp [enc]
def EncPost (s : ByteArray) (w : World) (e : Ending) (w' : World) : Prop := e = .returned (.string (encS s)) ∧ Below w.heap.size w w'
def EncRel (n : ByteArray) (B : Nat) (w : World) (v : Value) (wr : World) : Prop :=
  ∃ k : Nat, v = .int .i64 k ∧ k ≤ n.size ∧ YtokclcilpekfiaaGreatDoor.Bld B B (enc (n.data.toList.take k)) wr ∧ Below B w wr ∧ B < wr.heap.size
set_option maxHeartbeats 1000000 in
set_option maxRecDepth 100000 in
theorem refs_Encode (s : ByteArray) (m : Int) (w : World) (hE : Env m w) (hs : s.size ≤ 1099511627776) : Calls Tryz.prog 25 #[.string s] w (EncPost s w) := by
  have HE := Lib.hid hE
  clear hE
  go_enter Tryz.func25, Tryz.ntmps25
  go_wp2_with (first | (go_at_call 50; refine (utf_Norm s m _ HE.out hs).mono ?_; rintro e w1 ⟨rfl, hb1⟩))
  have hn := normB_le s
  have hnl := normB_list s
  have HNL := Lib.hid hnl
  clear hnl
  have HF := Lib.hid (YtokclcilpekfiaaGreatDoor.bld_fresh w1)
  go_loopw [10] (fun v wr => EncRel (normB s) w1.heap.size w1 v wr) (fun v _ => (normB s).size - (intOf v).toNat)
  case atStart => exact ⟨0, rfl, Nat.zero_le _, HF.out, below_alloc1 _ _, by simp⟩
  case round =>
    obtain ⟨k, rfl, hk, hB, hbw, hsz⟩ := hrel
    have HB := Lib.hid hB
    have HW := Lib.hid hbw
    clear hB hbw
    have he6 : (enc (List.take k (normB s).data.toList)).length ≤ 6 * k := Nat.le_trans (enc_len _) (by have : (List.take k (normB s).data.toList).length ≤ k := List.length_take_le _ _; omega)
    by_cases hlt : k < (normB s).size
    · have hsn := Lib.hid (enc_snoc (normB s) k hlt)
      have hw6 := wrt_le (((normB s)[k]).toNat : Int)
      have hb0 : 0 ≤ (((normB s)[k]).toNat : Int) := by omega
      have hb255 : (((normB s)[k]).toNat : Int) ≤ 255 := by have := (normB s)[k].toNat_lt; omega
      by_cases hw : 0 < (wrt (((normB s)[k]).toNat : Int)).size
      · obtain ⟨n1, n2⟩ := str_ne _ hw
        go_wp2_with (first | (go_at_call 51; refine (refs_written _ _).mono ?_; rintro e w3 ⟨rfl, rfl⟩) | (go_at_call 52; refine (YtokclcilpekfiaaGreatDoor.bld_string _ _ _ _ _ HB.out (by omega) (by omega)).mono ?_; rintro e w2 ⟨rfl, hB2, hb2⟩))
        have hB3 : encB (normB s)[k] = (wrt (((normB s)[k]).toNat : Int)).data.toList := by unfold encB; rw [if_neg (by omega)]
        exact ⟨⟨k + 1, by simp, by omega, by rw [hsn.out, hB3]; exact hB2, HW.out.trans hb2, by have := hb2.size; omega⟩, by simp [intOf]; omega⟩
      · have n0 := str_nil _ (show (wrt (((normB s)[k]).toNat : Int)).size = 0 by omega)
        go_wp2_with (first | (go_at_call 51; refine (refs_written _ _).mono ?_; rintro e w3 ⟨rfl, rfl⟩) | (go_at_call 53; refine (YtokclcilpekfiaaGreatDoor.bld_byte _ _ _ _ (by omega) (by omega) _ HB.out (by omega) (by omega)).mono ?_; rintro e w2 ⟨rfl, hB2, hb2⟩))
        have hB3 : encB (normB s)[k] = [UInt8.ofNat ((((normB s)[k]).toNat : Int)).toNat] := by unfold encB; rw [if_pos (by omega)]; simp
        exact ⟨⟨k + 1, by simp, by omega, by rw [hsn.out, hB3]; exact hB2, HW.out.trans hb2, by have := hb2.size; omega⟩, by simp [intOf]; omega⟩
    · obtain rfl : k = (normB s).size := by omega
      go_wp2_with (first | (go_at_call 54; refine (YtokclcilpekfiaaGreatDoor.bld_text _ _ _ _ HB.out (by omega)).mono ?_; rintro e w2 ⟨rfl, hb2⟩))
      go_ret
      refine ⟨?_, hb1.trans ((HW.out.trans hb2).mono hb1.size)⟩
      have ht : List.take (normB s).size (normB s).data.toList = norm s := by rw [List.take_of_length_le (by simp)]; exact HNL.out
      simp only [ht, encS]
      rfl
end Go.Proofs.YtokclcilpekfiaaGreatDoor
