/- Contracts of package ctx's small functions. Condition: the pointer holds a state. -/
import Derived.Test.YtokclcilpekfiaaGreatDoorTok1
import Derived.Test.YtokclcilpekfiaaGreatDoorModel2
import Derived.Deep.WholeRow
import Derived.Laws.EntriesVeiled
namespace Go.Proofs.YtokclcilpekfiaaGreatDoor
open Go.RowKit
set_option linter.unusedVariables false
set_option linter.unusedSimpArgs false

theorem flipb {P : Program} {f : FuncId} {args : Array Value} {w : World} {v : Value} (h : Calls P f args w fun e w' => e = .returned v ∧ w' = w) : Calls P f args w fun e w' => e = .returned v ∧ w = w' :=
  h.mono fun _ _ ⟨he, hw⟩ => ⟨he, hw.symm⟩
theorem hasOn_lib (s : ByteArray) : Lib.hasPrefix s.data.toList [111, 110] = hasOn s := by
  have h : s.toList = s.data.toList := Lib.toList_data s
  unfold hasOn Lib.hasPrefix
  rw [h]
set_option maxHeartbeats 1000000 in
set_option maxRecDepth 100000 in
theorem elem_Attr (s : ByteArray) (w : World) : Calls Tryz.prog 81 #[.string s] w fun e w' => e = .returned (.int .i64 (attrKind s)) ∧ w = w' := by
  unfold attrKind
  rcases Bool.eq_false_or_eq_true (s.toList == [104, 114, 101, 102]) with h0 | h0
  · simp only [*, if_true, if_false, Bool.false_eq_true]
    go_enter Tryz.func81, Tryz.ntmps81
    go_wp2_with (first | (go_at_call 133; refine (flipb (Tryz.strings_HasPrefix _ _ _)).mono ?_; rintro e w1 ⟨rfl, rfl⟩))
    go_ret
    exact ⟨by simp [*], rfl⟩
  · skip
    rcases Bool.eq_false_or_eq_true (s.toList == [115, 114, 99]) with h1 | h1
    · simp only [*, if_true, if_false, Bool.false_eq_true]
      go_enter Tryz.func81, Tryz.ntmps81
      go_wp2_with (first | (go_at_call 133; refine (flipb (Tryz.strings_HasPrefix _ _ _)).mono ?_; rintro e w1 ⟨rfl, rfl⟩))
      go_ret
      exact ⟨by simp [*], rfl⟩
    · skip
      rcases Bool.eq_false_or_eq_true (s.toList == [97, 99, 116, 105, 111, 110]) with h2 | h2
      · simp only [*, if_true, if_false, Bool.false_eq_true]
        go_enter Tryz.func81, Tryz.ntmps81
        go_wp2_with (first | (go_at_call 133; refine (flipb (Tryz.strings_HasPrefix _ _ _)).mono ?_; rintro e w1 ⟨rfl, rfl⟩))
        go_ret
        exact ⟨by simp [*], rfl⟩
      · skip
        rcases Bool.eq_false_or_eq_true (s.toList == [102, 111, 114, 109, 97, 99, 116, 105, 111, 110]) with h3 | h3
        · simp only [*, if_true, if_false, Bool.false_eq_true]
          go_enter Tryz.func81, Tryz.ntmps81
          go_wp2_with (first | (go_at_call 133; refine (flipb (Tryz.strings_HasPrefix _ _ _)).mono ?_; rintro e w1 ⟨rfl, rfl⟩))
          go_ret
          exact ⟨by simp [*], rfl⟩
        · skip
          rcases Bool.eq_false_or_eq_true (s.toList == [99, 105, 116, 101]) with h4 | h4
          · simp only [*, if_true, if_false, Bool.false_eq_true]
            go_enter Tryz.func81, Tryz.ntmps81
            go_wp2_with (first | (go_at_call 133; refine (flipb (Tryz.strings_HasPrefix _ _ _)).mono ?_; rintro e w1 ⟨rfl, rfl⟩))
            go_ret
            exact ⟨by simp [*], rfl⟩
          · skip
            rcases Bool.eq_false_or_eq_true (s.toList == [115, 116, 121, 108, 101]) with h5 | h5
            · simp only [*, if_true, if_false, Bool.false_eq_true]
              go_enter Tryz.func81, Tryz.ntmps81
              go_wp2_with (first | (go_at_call 133; refine (flipb (Tryz.strings_HasPrefix _ _ _)).mono ?_; rintro e w1 ⟨rfl, rfl⟩))
              go_ret
              exact ⟨by simp [*], rfl⟩
            · skip
              rcases Bool.eq_false_or_eq_true (hasOn s) with h6 | h6 <;>
              (skip
               by_cases h7 : (2 : Int) < (s.size : Int)
               · have h8 : decide (2 < s.size) = true := by simp; omega
                 have hp := hasOn_lib s
                 rw [h6] at hp
                 simp only [h0, h1, h2, h3, h4, h5, h6, h8, if_true, if_false, Bool.false_eq_true, Bool.and_true, Bool.and_false]
                 clear h8
                 go_enter Tryz.func81, Tryz.ntmps81
                 go_wp2_with (first | (go_at_call 133; refine (flipb (Tryz.strings_HasPrefix _ _ _)).mono ?_; rintro e w1 ⟨rfl, rfl⟩))
                 go_ret
                 exact ⟨by simp [*], rfl⟩
               · have h8 : decide (2 < s.size) = false := by simp; omega
                 have hp := hasOn_lib s
                 rw [h6] at hp
                 simp only [h0, h1, h2, h3, h4, h5, h6, h8, if_true, if_false, Bool.false_eq_true, Bool.and_true, Bool.and_false]
                 clear h8
                 go_enter Tryz.func81, Tryz.ntmps81
                 go_wp2_with (first | (go_at_call 133; refine (flipb (Tryz.strings_HasPrefix _ _ _)).mono ?_; rintro e w1 ⟨rfl, rfl⟩))
                 go_ret
                 exact ⟨by simp [*], rfl⟩)
set_option maxHeartbeats 1000000 in
set_option maxRecDepth 100000 in
theorem ctx_quoted (b off : Nat) (s : St)   (w : World) (h : StAt w b off s) : Calls Tryz.prog 44 #[.pointer (some ⟨b, off, none⟩)] w fun e w' => e = .returned (.bool (cQuoted s)) ∧ w = w' := by
  have h_ := h
  obtain ⟨g0, g1, g2, g3, g4, g5⟩ := h_
  have H := Lib.hid h
  clear h
  rcases chain2 (s.at_ == 8) (s.at_ == 9) with k0 | ⟨k0, k1⟩ | ⟨k0, k1⟩ <;>
  (skip
   go_enter Tryz.func44, Tryz.ntmps44
   go_wp2
   all_goals (go_ret; exact ⟨by simp [cQuoted, *], rfl⟩))

set_option maxHeartbeats 1000000 in
set_option maxRecDepth 100000 in
theorem ctx_holds (b off : Nat) (s : St)   (w : World) (h : StAt w b off s) : Calls Tryz.prog 80 #[.pointer (some ⟨b, off, none⟩)] w fun e w' => e = .returned (.int .i64 (cHolds s)) ∧ w = w' := by
  have h_ := h
  obtain ⟨g0, g1, g2, g3, g4, g5⟩ := h_
  have H := Lib.hid h
  clear h
  rcases chain2 (decide (s.at_ < 19)) (decide (22 < s.at_)) with k0 | ⟨k0, k1⟩ | ⟨k0, k1⟩ <;>
  (skip
   go_enter Tryz.func80, Tryz.ntmps80
   go_wp2_with (first | (go_at_call 132; refine (elem_Kind _ _).mono ?_; rintro e w1 ⟨rfl, rfl⟩))
   all_goals (go_ret; exact ⟨by simp [cHolds, *], rfl⟩))

set_option maxHeartbeats 1000000 in
set_option maxRecDepth 100000 in
theorem ctx_coded (b off : Nat) (s : St)   (w : World) (h : StAt w b off s) : Calls Tryz.prog 45 #[.pointer (some ⟨b, off, none⟩)] w fun e w' => e = .returned (.bool (cCoded s)) ∧ w = w' := by
  have h_ := h
  obtain ⟨g0, g1, g2, g3, g4, g5⟩ := h_
  have H := Lib.hid h
  clear h
  rcases chain2 (cHolds s == 3) (cHolds s == 4) with k0 | ⟨k0, k1⟩ | ⟨k0, k1⟩ <;>
  (skip
   go_enter Tryz.func45, Tryz.ntmps45
   go_wp2_with (first | (go_at_call 80; refine (ctx_holds _ _ s _ H.out).mono ?_; rintro e w1 ⟨rfl, rfl⟩))
   all_goals (go_ret; exact ⟨by simp [cCoded, *], rfl⟩))

set_option maxHeartbeats 1000000 in
set_option maxRecDepth 100000 in
theorem ctx_referred (b off : Nat) (s : St)   (w : World) (h : StAt w b off s) : Calls Tryz.prog 43 #[.pointer (some ⟨b, off, none⟩)] w fun e w' => e = .returned (.bool (cReferred s)) ∧ w = w' := by
  have h_ := h
  obtain ⟨g0, g1, g2, g3, g4, g5⟩ := h_
  have H := Lib.hid h
  clear h
  rcases chain2 (s.at_ == 0) (cHolds s == 2) with k0 | ⟨k0, k1⟩ | ⟨k0, k1⟩ <;>
  (skip
   go_enter Tryz.func43, Tryz.ntmps43
   go_wp2_with (first | (go_at_call 80; refine (ctx_holds _ _ s _ H.out).mono ?_; rintro e w1 ⟨rfl, rfl⟩) | (go_at_call 44; refine (ctx_quoted _ _ s _ H.out).mono ?_; rintro e w1 ⟨rfl, rfl⟩))
   all_goals (go_ret; exact ⟨by simp [cReferred, *], rfl⟩))

set_option maxHeartbeats 1000000 in
set_option maxRecDepth 100000 in
theorem ctx_zone (b off : Nat) (s : St)   (w : World) (h : StAt w b off s) : Calls Tryz.prog 75 #[.pointer (some ⟨b, off, none⟩)] w fun e w' => e = .returned (.int .i64 (cZone s)) ∧ w = w' := by
  have h_ := h
  obtain ⟨g0, g1, g2, g3, g4, g5⟩ := h_
  have H := Lib.hid h
  clear h
  rcases chain2 (cQuoted s) (cCoded s) with k0 | ⟨k0, k1⟩ | ⟨k0, k1⟩ <;>
  (skip
   go_enter Tryz.func75, Tryz.ntmps75
   go_wp2_with (first | (go_at_call 44; refine (ctx_quoted _ _ s _ H.out).mono ?_; rintro e w1 ⟨rfl, rfl⟩) | (go_at_call 45; refine (ctx_coded _ _ s _ H.out).mono ?_; rintro e w1 ⟨rfl, rfl⟩))
   all_goals (go_ret; exact ⟨by simp [cZone, *], rfl⟩))

set_option maxHeartbeats 1000000 in
set_option maxRecDepth 100000 in
theorem ctx_kind (b off : Nat) (s : St)   (w : World) (h : StAt w b off s) : Calls Tryz.prog 42 #[.pointer (some ⟨b, off, none⟩)] w fun e w' => e = .returned (.int .i64 (cKind s)) ∧ w = w' := by
  have h_ := h
  obtain ⟨g0, g1, g2, g3, g4, g5⟩ := h_
  have H := Lib.hid h
  clear h
  rcases Bool.eq_false_or_eq_true (cQuoted s) with k0 | k0 <;> rcases Bool.eq_false_or_eq_true s.fin with k1 | k1 <;> rcases chain2 (cHolds s == 3) (cHolds s == 4) with k2 | ⟨k2, k3⟩ | ⟨k2, k3⟩ <;>
  (skip
   go_enter Tryz.func42, Tryz.ntmps42
   go_wp2_with (first | (go_at_call 44; refine (ctx_quoted _ _ s _ H.out).mono ?_; rintro e w1 ⟨rfl, rfl⟩) | (go_at_call 80; refine (ctx_holds _ _ s _ H.out).mono ?_; rintro e w1 ⟨rfl, rfl⟩) | (go_at_call 81; refine (elem_Attr _ _).mono ?_; rintro e w1 ⟨rfl, rfl⟩))
   all_goals (go_ret; exact ⟨by simp [cKind, *], rfl⟩))

def LangAt (w : World) (b off : Nat) (l : Int) (js : Bool) : Prop := w.cell? ⟨b, off, none⟩ = some (.int .i64 l) ∧ w.cell? ⟨b, off + 1, none⟩ = some (.bool js)
theorem LangAt.below {w w' : World} {b off : Nat} {l : Int} {js : Bool} (h : LangAt w b off l js) (hb : Below w.heap.size w w') : LangAt w' b off l js := by
  have hl : b < w.heap.size := World.block_lt_of_cell? w ⟨b, off, none⟩ h.1
  exact ⟨(hb.cell (p := ⟨b, _, none⟩) hl).trans h.1, (hb.cell (p := ⟨b, _, none⟩) hl).trans h.2⟩
theorem setRow_new (W : World) (n : Nat) (hn : n = W.heap.size) (c c' : Array Value) (t : TypeId) : (W.alloc (.cells c t)).setRow n c' = W.alloc (.cells c' t) := by subst hn; exact World.setRow_alloc_new _ _ _ _
theorem heap_new (W : World) (n : Nat) (hn : n = W.heap.size) (o : Obj) : (W.alloc o).heap[n]? = some o := by subst hn; exact heap_alloc_last W o
set_option maxHeartbeats 1000000 in
set_option maxRecDepth 100000 in
theorem lang_text (b off : Nat) (l : Int) (js : Bool) (c q sl : Int)  (w : World) (h : LangAt w b off l js) : Calls Tryz.prog 165 #[.pointer (some ⟨b, off, none⟩), .int .u8 c, .int .u8 q, .int .i64 sl] w fun e w' => e = .returned (.int .i64 (lText l c q sl)) ∧ w = w' := by
  have h_ := h
  obtain ⟨g0, g1⟩ := h_
  have H := Lib.hid h
  clear h
  rcases chain3 (c == 92) (c == q) (c == 10) with k0 | ⟨k0, k1⟩ | ⟨k0, k1, k2⟩ | ⟨k0, k1, k2⟩ <;>
  (skip
   go_enter Tryz.func165, Tryz.ntmps165
   go_wp2
   all_goals (go_ret; exact ⟨by simp [lText, *], rfl⟩))

set_option maxHeartbeats 1000000 in
set_option maxRecDepth 100000 in
theorem lang_code (b off : Nat) (l : Int) (js : Bool) (c : Int) (h0 : 0 ≤ c) (h1 : c ≤ 255) (w : World) (h : LangAt w b off l js) : Calls Tryz.prog 118 #[.pointer (some ⟨b, off, none⟩), .int .u8 c] w fun e w' => e = .returned (.int .i64 (lCode js c)) ∧ w = w' := by
  have h_ := h
  obtain ⟨g0, g1⟩ := h_
  have H := Lib.hid h
  clear h
  cases js <;> rcases chain5 (c == 34) (c == 39) (c == 47) (c == 96) (c == 92) with k0 | ⟨k0, k1⟩ | ⟨k0, k1, k2⟩ | ⟨k0, k1, k2, k3⟩ | ⟨k0, k1, k2, k3, k4⟩ | ⟨k0, k1, k2, k3, k4⟩ <;>
  (skip
   go_enter Tryz.func118, Tryz.ntmps118
   go_wp2
   all_goals (go_ret; exact ⟨by simp [lCode, *], rfl⟩))

set_option maxHeartbeats 1000000 in
set_option maxRecDepth 100000 in
theorem lang_double (b off : Nat) (l : Int) (js : Bool) (c : Int) (h0 : 0 ≤ c) (h1 : c ≤ 255) (w : World) (h : LangAt w b off l js) : Calls Tryz.prog 119 #[.pointer (some ⟨b, off, none⟩), .int .u8 c] w fun e w' => e = .returned (.int .i64 (lText l c 34 3)) ∧ w = w' := by
  have h_ := h
  obtain ⟨g0, g1⟩ := h_
  have H := Lib.hid h
  clear h
  go_enter Tryz.func119, Tryz.ntmps119
  go_wp2_with (first | (go_at_call 165; refine (lang_text _ _ l js _ _ _ _ H.out).mono ?_; rintro e w1 ⟨rfl, rfl⟩))
  all_goals (go_ret; exact ⟨by simp [*], rfl⟩)

set_option maxHeartbeats 1000000 in
set_option maxRecDepth 100000 in
theorem lang_single (b off : Nat) (l : Int) (js : Bool) (c : Int) (h0 : 0 ≤ c) (h1 : c ≤ 255) (w : World) (h : LangAt w b off l js) : Calls Tryz.prog 120 #[.pointer (some ⟨b, off, none⟩), .int .u8 c] w fun e w' => e = .returned (.int .i64 (lText l c 39 4)) ∧ w = w' := by
  have h_ := h
  obtain ⟨g0, g1⟩ := h_
  have H := Lib.hid h
  clear h
  go_enter Tryz.func120, Tryz.ntmps120
  go_wp2_with (first | (go_at_call 165; refine (lang_text _ _ l js _ _ _ _ H.out).mono ?_; rintro e w1 ⟨rfl, rfl⟩))
  all_goals (go_ret; exact ⟨by simp [*], rfl⟩)

set_option maxHeartbeats 1000000 in
set_option maxRecDepth 100000 in
theorem lang_doubleSlash (b off : Nat) (l : Int) (js : Bool) (c : Int) (h0 : 0 ≤ c) (h1 : c ≤ 255) (w : World) (h : LangAt w b off l js) : Calls Tryz.prog 121 #[.pointer (some ⟨b, off, none⟩), .int .u8 c] w fun e w' => e = .returned (.int .i64 1) ∧ w = w' := by
  have h_ := h
  obtain ⟨g0, g1⟩ := h_
  have H := Lib.hid h
  clear h
  go_enter Tryz.func121, Tryz.ntmps121
  go_wp2
  all_goals (go_ret; exact ⟨by simp [*], rfl⟩)

set_option maxHeartbeats 1000000 in
set_option maxRecDepth 100000 in
theorem lang_singleSlash (b off : Nat) (l : Int) (js : Bool) (c : Int) (h0 : 0 ≤ c) (h1 : c ≤ 255) (w : World) (h : LangAt w b off l js) : Calls Tryz.prog 122 #[.pointer (some ⟨b, off, none⟩), .int .u8 c] w fun e w' => e = .returned (.int .i64 2) ∧ w = w' := by
  have h_ := h
  obtain ⟨g0, g1⟩ := h_
  have H := Lib.hid h
  clear h
  go_enter Tryz.func122, Tryz.ntmps122
  go_wp2
  all_goals (go_ret; exact ⟨by simp [*], rfl⟩)

set_option maxHeartbeats 1000000 in
set_option maxRecDepth 100000 in
theorem lang_dirty (b off : Nat) (l : Int) (js : Bool) (c : Int) (h0 : 0 ≤ c) (h1 : c ≤ 255) (w : World) (h : LangAt w b off l js) : Calls Tryz.prog 127 #[.pointer (some ⟨b, off, none⟩), .int .u8 c] w fun e w' => e = .returned (.int .i64 9) ∧ w = w' := by
  have h_ := h
  obtain ⟨g0, g1⟩ := h_
  have H := Lib.hid h
  clear h
  go_enter Tryz.func127, Tryz.ntmps127
  go_wp2
  all_goals (go_ret; exact ⟨by simp [*], rfl⟩)

set_option maxHeartbeats 1000000 in
set_option maxRecDepth 100000 in
theorem lang_slash (b off : Nat) (l : Int) (js : Bool) (c : Int) (h0 : 0 ≤ c) (h1 : c ≤ 255) (w : World) (h : LangAt w b off l js) : Calls Tryz.prog 123 #[.pointer (some ⟨b, off, none⟩), .int .u8 c] w fun e w' => e = .returned (.int .i64 (lSlash js c)) ∧ w = w' := by
  have h_ := h
  obtain ⟨g0, g1⟩ := h_
  have H := Lib.hid h
  clear h
  cases js <;> rcases chain2 (c == 42) (c == 47) with k0 | ⟨k0, k1⟩ | ⟨k0, k1⟩ <;>
  (skip
   go_enter Tryz.func123, Tryz.ntmps123
   go_wp2_with (first | (go_at_call 118; refine (lang_code _ _ l _ _ (by omega) (by omega) _ H.out).mono ?_; rintro e w1 ⟨rfl, rfl⟩))
   all_goals (go_ret; exact ⟨by simp [lSlash, *], rfl⟩))

set_option maxHeartbeats 1000000 in
set_option maxRecDepth 100000 in
theorem lang_line (b off : Nat) (l : Int) (js : Bool) (c : Int) (h0 : 0 ≤ c) (h1 : c ≤ 255) (w : World) (h : LangAt w b off l js) : Calls Tryz.prog 124 #[.pointer (some ⟨b, off, none⟩), .int .u8 c] w fun e w' => e = .returned (.int .i64 (lLine js c)) ∧ w = w' := by
  have h_ := h
  obtain ⟨g0, g1⟩ := h_
  have H := Lib.hid h
  clear h
  cases js <;> rcases chain1 (c == 10) with k0 | k0 <;>
  (skip
   go_enter Tryz.func124, Tryz.ntmps124
   go_wp2
   all_goals (go_ret; exact ⟨by simp [lLine, *], rfl⟩))

set_option maxHeartbeats 1000000 in
set_option maxRecDepth 100000 in
theorem lang_block (b off : Nat) (l : Int) (js : Bool) (c : Int) (h0 : 0 ≤ c) (h1 : c ≤ 255) (w : World) (h : LangAt w b off l js) : Calls Tryz.prog 125 #[.pointer (some ⟨b, off, none⟩), .int .u8 c] w fun e w' => e = .returned (.int .i64 (lBlock c)) ∧ w = w' := by
  have h_ := h
  obtain ⟨g0, g1⟩ := h_
  have H := Lib.hid h
  clear h
  rcases chain1 (c == 42) with k0 | k0 <;>
  (skip
   go_enter Tryz.func125, Tryz.ntmps125
   go_wp2
   all_goals (go_ret; exact ⟨by simp [lBlock, *], rfl⟩))

set_option maxHeartbeats 1000000 in
set_option maxRecDepth 100000 in
theorem lang_blockStar (b off : Nat) (l : Int) (js : Bool) (c : Int) (h0 : 0 ≤ c) (h1 : c ≤ 255) (w : World) (h : LangAt w b off l js) : Calls Tryz.prog 126 #[.pointer (some ⟨b, off, none⟩), .int .u8 c] w fun e w' => e = .returned (.int .i64 (lBlockStar c)) ∧ w = w' := by
  have h_ := h
  obtain ⟨g0, g1⟩ := h_
  have H := Lib.hid h
  clear h
  rcases chain1 (c == 47) with k0 | k0 <;>
  (skip
   go_enter Tryz.func126, Tryz.ntmps126
   go_wp2_with (first | (go_at_call 125; refine (lang_block _ _ l js _ (by omega) (by omega) _ H.out).mono ?_; rintro e w1 ⟨rfl, rfl⟩))
   all_goals (go_ret; exact ⟨by simp [lBlockStar, *], rfl⟩))

set_option maxHeartbeats 1000000 in
set_option maxRecDepth 100000 in
theorem lang_next_0 (b off : Nat) (js : Bool) (c : Int) (h0 : 0 ≤ c) (h1 : c ≤ 255) (w : World) (h : LangAt w b off 0 js) : Calls Tryz.prog 78 #[.pointer (some ⟨b, off, none⟩), .int .u8 c] w fun e w' => e = .returned (.int .i64 (lCode js c)) ∧ Below w.heap.size w w' := by
  have hlt : b < w.heap.size := World.block_lt_of_cell? w ⟨b, off, none⟩ h.1
  have h_ := h
  obtain ⟨g0, g1⟩ := h_
  have H := Lib.hid h
  clear h
  have hmf : ∀ (fn : Fn) (first cap : Array Value) (w : World), (Instr.makeFunc fn first cap).run Tryz.prog w = .ok (.func fn first cap) w := fun _ _ _ _ => rfl
  have hset := setRow_new w w.heap.size rfl #[.nilFunc, .nilFunc, .nilFunc, .nilFunc, .nilFunc, .nilFunc, .nilFunc, .nilFunc, .nilFunc, .nilFunc] #[.func (.func 118) #[.pointer (some ⟨b, off, none⟩)] #[], .func (.func 119) #[.pointer (some ⟨b, off, none⟩)] #[], .func (.func 120) #[.pointer (some ⟨b, off, none⟩)] #[], .func (.func 121) #[.pointer (some ⟨b, off, none⟩)] #[], .func (.func 122) #[.pointer (some ⟨b, off, none⟩)] #[], .func (.func 123) #[.pointer (some ⟨b, off, none⟩)] #[], .func (.func 124) #[.pointer (some ⟨b, off, none⟩)] #[], .func (.func 125) #[.pointer (some ⟨b, off, none⟩)] #[], .func (.func 126) #[.pointer (some ⟨b, off, none⟩)] #[], .func (.func 127) #[.pointer (some ⟨b, off, none⟩)] #[]] 124
  have hlast := Lib.hid (heap_new w w.heap.size rfl (.cells #[.nilFunc, .nilFunc, .nilFunc, .nilFunc, .nilFunc, .nilFunc, .nilFunc, .nilFunc, .nilFunc, .nilFunc] 124))
  go_enter Tryz.func78, Tryz.ntmps78
  go_wp2_with (first | (with_reducible refine wpList_store_row (o := ⟨none, .store 124 (.tmp 5) (.tmp 26), _, _, _, _⟩) rfl 124 (.tmp 5) (.tmp 26) rfl w.heap.size #[.func (.func 118) #[.pointer (some ⟨b, off, none⟩)] #[], .func (.func 119) #[.pointer (some ⟨b, off, none⟩)] #[], .func (.func 120) #[.pointer (some ⟨b, off, none⟩)] #[], .func (.func 121) #[.pointer (some ⟨b, off, none⟩)] #[], .func (.func 122) #[.pointer (some ⟨b, off, none⟩)] #[], .func (.func 123) #[.pointer (some ⟨b, off, none⟩)] #[], .func (.func 124) #[.pointer (some ⟨b, off, none⟩)] #[], .func (.func 125) #[.pointer (some ⟨b, off, none⟩)] #[], .func (.func 126) #[.pointer (some ⟨b, off, none⟩)] #[], .func (.func 127) #[.pointer (some ⟨b, off, none⟩)] #[]] ?hx ?hy 124 _ hlast.out ?hi ?hs ?h1 ?_) | (go_at_call 118; refine (lang_code _ _ 0 _ _ (by omega) (by omega) _ (LangAt.below H.out (by with_reducible (repeat (first | refine Below.setCell ?_ (by first | exact Nat.le_refl _ | (simp; done) | (simp; omega) | omega) _ | refine Below.drew ?_ | refine below_drewN ?_ _ | refine Below.alloc ?_ (by first | exact Nat.le_refl _ | (simp; done) | (simp; omega) | omega) _ | exact Below.refl _ _ | refine Below.trans ?_ (Below.mono (by assumption) (by first | exact Nat.le_refl _ | (simp; done) | (simp; omega) | omega))))))).mono ?_; rintro e w1 ⟨rfl, rfl⟩))
  case hx => rfl
  case hy => rfl
  case hi => kernel_rfl
  case hs => rfl
  case h1 => kernel_rfl
  go_wp2_with (first | (go_at_call 118; refine (lang_code _ _ 0 _ _ (by omega) (by omega) _ (LangAt.below H.out (by with_reducible (repeat (first | refine Below.setCell ?_ (by first | exact Nat.le_refl _ | (simp; done) | (simp; omega) | omega) _ | refine Below.drew ?_ | refine below_drewN ?_ _ | refine Below.alloc ?_ (by first | exact Nat.le_refl _ | (simp; done) | (simp; omega) | omega) _ | exact Below.refl _ _ | refine Below.trans ?_ (Below.mono (by assumption) (by first | exact Nat.le_refl _ | (simp; done) | (simp; omega) | omega))))))).mono ?_; rintro e w1 ⟨rfl, rfl⟩))
  go_ret
  refine ⟨rfl, ?_⟩; with_reducible (repeat (first | refine Below.setCell ?_ (by first | exact Nat.le_refl _ | (simp; done) | (simp; omega) | omega) _ | refine Below.drew ?_ | refine below_drewN ?_ _ | refine Below.alloc ?_ (by first | exact Nat.le_refl _ | (simp; done) | (simp; omega) | omega) _ | exact Below.refl _ _ | refine Below.trans ?_ (Below.mono (by assumption) (by first | exact Nat.le_refl _ | (simp; done) | (simp; omega) | omega))))

set_option maxHeartbeats 1000000 in
set_option maxRecDepth 100000 in
theorem lang_next_1 (b off : Nat) (js : Bool) (c : Int) (h0 : 0 ≤ c) (h1 : c ≤ 255) (w : World) (h : LangAt w b off 1 js) : Calls Tryz.prog 78 #[.pointer (some ⟨b, off, none⟩), .int .u8 c] w fun e w' => e = .returned (.int .i64 (lText 1 c 34 3)) ∧ Below w.heap.size w w' := by
  have hlt : b < w.heap.size := World.block_lt_of_cell? w ⟨b, off, none⟩ h.1
  have h_ := h
  obtain ⟨g0, g1⟩ := h_
  have H := Lib.hid h
  clear h
  have hmf : ∀ (fn : Fn) (first cap : Array Value) (w : World), (Instr.makeFunc fn first cap).run Tryz.prog w = .ok (.func fn first cap) w := fun _ _ _ _ => rfl
  have hset := setRow_new w w.heap.size rfl #[.nilFunc, .nilFunc, .nilFunc, .nilFunc, .nilFunc, .nilFunc, .nilFunc, .nilFunc, .nilFunc, .nilFunc] #[.func (.func 118) #[.pointer (some ⟨b, off, none⟩)] #[], .func (.func 119) #[.pointer (some ⟨b, off, none⟩)] #[], .func (.func 120) #[.pointer (some ⟨b, off, none⟩)] #[], .func (.func 121) #[.pointer (some ⟨b, off, none⟩)] #[], .func (.func 122) #[.pointer (some ⟨b, off, none⟩)] #[], .func (.func 123) #[.pointer (some ⟨b, off, none⟩)] #[], .func (.func 124) #[.pointer (some ⟨b, off, none⟩)] #[], .func (.func 125) #[.pointer (some ⟨b, off, none⟩)] #[], .func (.func 126) #[.pointer (some ⟨b, off, none⟩)] #[], .func (.func 127) #[.pointer (some ⟨b, off, none⟩)] #[]] 124
  have hlast := Lib.hid (heap_new w w.heap.size rfl (.cells #[.nilFunc, .nilFunc, .nilFunc, .nilFunc, .nilFunc, .nilFunc, .nilFunc, .nilFunc, .nilFunc, .nilFunc] 124))
  go_enter Tryz.func78, Tryz.ntmps78
  go_wp2_with (first | (with_reducible refine wpList_store_row (o := ⟨none, .store 124 (.tmp 5) (.tmp 26), _, _, _, _⟩) rfl 124 (.tmp 5) (.tmp 26) rfl w.heap.size #[.func (.func 118) #[.pointer (some ⟨b, off, none⟩)] #[], .func (.func 119) #[.pointer (some ⟨b, off, none⟩)] #[], .func (.func 120) #[.pointer (some ⟨b, off, none⟩)] #[], .func (.func 121) #[.pointer (some ⟨b, off, none⟩)] #[], .func (.func 122) #[.pointer (some ⟨b, off, none⟩)] #[], .func (.func 123) #[.pointer (some ⟨b, off, none⟩)] #[], .func (.func 124) #[.pointer (some ⟨b, off, none⟩)] #[], .func (.func 125) #[.pointer (some ⟨b, off, none⟩)] #[], .func (.func 126) #[.pointer (some ⟨b, off, none⟩)] #[], .func (.func 127) #[.pointer (some ⟨b, off, none⟩)] #[]] ?hx ?hy 124 _ hlast.out ?hi ?hs ?h1 ?_) | (go_at_call 119; refine (lang_double _ _ 1 js _ (by omega) (by omega) _ (LangAt.below H.out (by with_reducible (repeat (first | refine Below.setCell ?_ (by first | exact Nat.le_refl _ | (simp; done) | (simp; omega) | omega) _ | refine Below.drew ?_ | refine below_drewN ?_ _ | refine Below.alloc ?_ (by first | exact Nat.le_refl _ | (simp; done) | (simp; omega) | omega) _ | exact Below.refl _ _ | refine Below.trans ?_ (Below.mono (by assumption) (by first | exact Nat.le_refl _ | (simp; done) | (simp; omega) | omega))))))).mono ?_; rintro e w1 ⟨rfl, rfl⟩))
  case hx => rfl
  case hy => rfl
  case hi => kernel_rfl
  case hs => rfl
  case h1 => kernel_rfl
  go_wp2_with (first | (go_at_call 119; refine (lang_double _ _ 1 js _ (by omega) (by omega) _ (LangAt.below H.out (by with_reducible (repeat (first | refine Below.setCell ?_ (by first | exact Nat.le_refl _ | (simp; done) | (simp; omega) | omega) _ | refine Below.drew ?_ | refine below_drewN ?_ _ | refine Below.alloc ?_ (by first | exact Nat.le_refl _ | (simp; done) | (simp; omega) | omega) _ | exact Below.refl _ _ | refine Below.trans ?_ (Below.mono (by assumption) (by first | exact Nat.le_refl _ | (simp; done) | (simp; omega) | omega))))))).mono ?_; rintro e w1 ⟨rfl, rfl⟩))
  go_ret
  refine ⟨rfl, ?_⟩; with_reducible (repeat (first | refine Below.setCell ?_ (by first | exact Nat.le_refl _ | (simp; done) | (simp; omega) | omega) _ | refine Below.drew ?_ | refine below_drewN ?_ _ | refine Below.alloc ?_ (by first | exact Nat.le_refl _ | (simp; done) | (simp; omega) | omega) _ | exact Below.refl _ _ | refine Below.trans ?_ (Below.mono (by assumption) (by first | exact Nat.le_refl _ | (simp; done) | (simp; omega) | omega))))

set_option maxHeartbeats 1000000 in
set_option maxRecDepth 100000 in
theorem lang_next_2 (b off : Nat) (js : Bool) (c : Int) (h0 : 0 ≤ c) (h1 : c ≤ 255) (w : World) (h : LangAt w b off 2 js) : Calls Tryz.prog 78 #[.pointer (some ⟨b, off, none⟩), .int .u8 c] w fun e w' => e = .returned (.int .i64 (lText 2 c 39 4)) ∧ Below w.heap.size w w' := by
  have hlt : b < w.heap.size := World.block_lt_of_cell? w ⟨b, off, none⟩ h.1
  have h_ := h
  obtain ⟨g0, g1⟩ := h_
  have H := Lib.hid h
  clear h
  have hmf : ∀ (fn : Fn) (first cap : Array Value) (w : World), (Instr.makeFunc fn first cap).run Tryz.prog w = .ok (.func fn first cap) w := fun _ _ _ _ => rfl
  have hset := setRow_new w w.heap.size rfl #[.nilFunc, .nilFunc, .nilFunc, .nilFunc, .nilFunc, .nilFunc, .nilFunc, .nilFunc, .nilFunc, .nilFunc] #[.func (.func 118) #[.pointer (some ⟨b, off, none⟩)] #[], .func (.func 119) #[.pointer (some ⟨b, off, none⟩)] #[], .func (.func 120) #[.pointer (some ⟨b, off, none⟩)] #[], .func (.func 121) #[.pointer (some ⟨b, off, none⟩)] #[], .func (.func 122) #[.pointer (some ⟨b, off, none⟩)] #[], .func (.func 123) #[.pointer (some ⟨b, off, none⟩)] #[], .func (.func 124) #[.pointer (some ⟨b, off, none⟩)] #[], .func (.func 125) #[.pointer (some ⟨b, off, none⟩)] #[], .func (.func 126) #[.pointer (some ⟨b, off, none⟩)] #[], .func (.func 127) #[.pointer (some ⟨b, off, none⟩)] #[]] 124
  have hlast := Lib.hid (heap_new w w.heap.size rfl (.cells #[.nilFunc, .nilFunc, .nilFunc, .nilFunc, .nilFunc, .nilFunc, .nilFunc, .nilFunc, .nilFunc, .nilFunc] 124))
  go_enter Tryz.func78, Tryz.ntmps78
  go_wp2_with (first | (with_reducible refine wpList_store_row (o := ⟨none, .store 124 (.tmp 5) (.tmp 26), _, _, _, _⟩) rfl 124 (.tmp 5) (.tmp 26) rfl w.heap.size #[.func (.func 118) #[.pointer (some ⟨b, off, none⟩)] #[], .func (.func 119) #[.pointer (some ⟨b, off, none⟩)] #[], .func (.func 120) #[.pointer (some ⟨b, off, none⟩)] #[], .func (.func 121) #[.pointer (some ⟨b, off, none⟩)] #[], .func (.func 122) #[.pointer (some ⟨b, off, none⟩)] #[], .func (.func 123) #[.pointer (some ⟨b, off, none⟩)] #[], .func (.func 124) #[.pointer (some ⟨b, off, none⟩)] #[], .func (.func 125) #[.pointer (some ⟨b, off, none⟩)] #[], .func (.func 126) #[.pointer (some ⟨b, off, none⟩)] #[], .func (.func 127) #[.pointer (some ⟨b, off, none⟩)] #[]] ?hx ?hy 124 _ hlast.out ?hi ?hs ?h1 ?_) | (go_at_call 120; refine (lang_single _ _ 2 js _ (by omega) (by omega) _ (LangAt.below H.out (by with_reducible (repeat (first | refine Below.setCell ?_ (by first | exact Nat.le_refl _ | (simp; done) | (simp; omega) | omega) _ | refine Below.drew ?_ | refine below_drewN ?_ _ | refine Below.alloc ?_ (by first | exact Nat.le_refl _ | (simp; done) | (simp; omega) | omega) _ | exact Below.refl _ _ | refine Below.trans ?_ (Below.mono (by assumption) (by first | exact Nat.le_refl _ | (simp; done) | (simp; omega) | omega))))))).mono ?_; rintro e w1 ⟨rfl, rfl⟩))
  case hx => rfl
  case hy => rfl
  case hi => kernel_rfl
  case hs => rfl
  case h1 => kernel_rfl
  go_wp2_with (first | (go_at_call 120; refine (lang_single _ _ 2 js _ (by omega) (by omega) _ (LangAt.below H.out (by with_reducible (repeat (first | refine Below.setCell ?_ (by first | exact Nat.le_refl _ | (simp; done) | (simp; omega) | omega) _ | refine Below.drew ?_ | refine below_drewN ?_ _ | refine Below.alloc ?_ (by first | exact Nat.le_refl _ | (simp; done) | (simp; omega) | omega) _ | exact Below.refl _ _ | refine Below.trans ?_ (Below.mono (by assumption) (by first | exact Nat.le_refl _ | (simp; done) | (simp; omega) | omega))))))).mono ?_; rintro e w1 ⟨rfl, rfl⟩))
  go_ret
  refine ⟨rfl, ?_⟩; with_reducible (repeat (first | refine Below.setCell ?_ (by first | exact Nat.le_refl _ | (simp; done) | (simp; omega) | omega) _ | refine Below.drew ?_ | refine below_drewN ?_ _ | refine Below.alloc ?_ (by first | exact Nat.le_refl _ | (simp; done) | (simp; omega) | omega) _ | exact Below.refl _ _ | refine Below.trans ?_ (Below.mono (by assumption) (by first | exact Nat.le_refl _ | (simp; done) | (simp; omega) | omega))))

set_option maxHeartbeats 1000000 in
set_option maxRecDepth 100000 in
theorem lang_next_3 (b off : Nat) (js : Bool) (c : Int) (h0 : 0 ≤ c) (h1 : c ≤ 255) (w : World) (h : LangAt w b off 3 js) : Calls Tryz.prog 78 #[.pointer (some ⟨b, off, none⟩), .int .u8 c] w fun e w' => e = .returned (.int .i64 (1)) ∧ Below w.heap.size w w' := by
  have hlt : b < w.heap.size := World.block_lt_of_cell? w ⟨b, off, none⟩ h.1
  have h_ := h
  obtain ⟨g0, g1⟩ := h_
  have H := Lib.hid h
  clear h
  have hmf : ∀ (fn : Fn) (first cap : Array Value) (w : World), (Instr.makeFunc fn first cap).run Tryz.prog w = .ok (.func fn first cap) w := fun _ _ _ _ => rfl
  have hset := setRow_new w w.heap.size rfl #[.nilFunc, .nilFunc, .nilFunc, .nilFunc, .nilFunc, .nilFunc, .nilFunc, .nilFunc, .nilFunc, .nilFunc] #[.func (.func 118) #[.pointer (some ⟨b, off, none⟩)] #[], .func (.func 119) #[.pointer (some ⟨b, off, none⟩)] #[], .func (.func 120) #[.pointer (some ⟨b, off, none⟩)] #[], .func (.func 121) #[.pointer (some ⟨b, off, none⟩)] #[], .func (.func 122) #[.pointer (some ⟨b, off, none⟩)] #[], .func (.func 123) #[.pointer (some ⟨b, off, none⟩)] #[], .func (.func 124) #[.pointer (some ⟨b, off, none⟩)] #[], .func (.func 125) #[.pointer (some ⟨b, off, none⟩)] #[], .func (.func 126) #[.pointer (some ⟨b, off, none⟩)] #[], .func (.func 127) #[.pointer (some ⟨b, off, none⟩)] #[]] 124
  have hlast := Lib.hid (heap_new w w.heap.size rfl (.cells #[.nilFunc, .nilFunc, .nilFunc, .nilFunc, .nilFunc, .nilFunc, .nilFunc, .nilFunc, .nilFunc, .nilFunc] 124))
  go_enter Tryz.func78, Tryz.ntmps78
  go_wp2_with (first | (with_reducible refine wpList_store_row (o := ⟨none, .store 124 (.tmp 5) (.tmp 26), _, _, _, _⟩) rfl 124 (.tmp 5) (.tmp 26) rfl w.heap.size #[.func (.func 118) #[.pointer (some ⟨b, off, none⟩)] #[], .func (.func 119) #[.pointer (some ⟨b, off, none⟩)] #[], .func (.func 120) #[.pointer (some ⟨b, off, none⟩)] #[], .func (.func 121) #[.pointer (some ⟨b, off, none⟩)] #[], .func (.func 122) #[.pointer (some ⟨b, off, none⟩)] #[], .func (.func 123) #[.pointer (some ⟨b, off, none⟩)] #[], .func (.func 124) #[.pointer (some ⟨b, off, none⟩)] #[], .func (.func 125) #[.pointer (some ⟨b, off, none⟩)] #[], .func (.func 126) #[.pointer (some ⟨b, off, none⟩)] #[], .func (.func 127) #[.pointer (some ⟨b, off, none⟩)] #[]] ?hx ?hy 124 _ hlast.out ?hi ?hs ?h1 ?_) | (go_at_call 121; refine (lang_doubleSlash _ _ 3 js _ (by omega) (by omega) _ (LangAt.below H.out (by with_reducible (repeat (first | refine Below.setCell ?_ (by first | exact Nat.le_refl _ | (simp; done) | (simp; omega) | omega) _ | refine Below.drew ?_ | refine below_drewN ?_ _ | refine Below.alloc ?_ (by first | exact Nat.le_refl _ | (simp; done) | (simp; omega) | omega) _ | exact Below.refl _ _ | refine Below.trans ?_ (Below.mono (by assumption) (by first | exact Nat.le_refl _ | (simp; done) | (simp; omega) | omega))))))).mono ?_; rintro e w1 ⟨rfl, rfl⟩))
  case hx => rfl
  case hy => rfl
  case hi => kernel_rfl
  case hs => rfl
  case h1 => kernel_rfl
  go_wp2_with (first | (go_at_call 121; refine (lang_doubleSlash _ _ 3 js _ (by omega) (by omega) _ (LangAt.below H.out (by with_reducible (repeat (first | refine Below.setCell ?_ (by first | exact Nat.le_refl _ | (simp; done) | (simp; omega) | omega) _ | refine Below.drew ?_ | refine below_drewN ?_ _ | refine Below.alloc ?_ (by first | exact Nat.le_refl _ | (simp; done) | (simp; omega) | omega) _ | exact Below.refl _ _ | refine Below.trans ?_ (Below.mono (by assumption) (by first | exact Nat.le_refl _ | (simp; done) | (simp; omega) | omega))))))).mono ?_; rintro e w1 ⟨rfl, rfl⟩))
  go_ret
  refine ⟨rfl, ?_⟩; with_reducible (repeat (first | refine Below.setCell ?_ (by first | exact Nat.le_refl _ | (simp; done) | (simp; omega) | omega) _ | refine Below.drew ?_ | refine below_drewN ?_ _ | refine Below.alloc ?_ (by first | exact Nat.le_refl _ | (simp; done) | (simp; omega) | omega) _ | exact Below.refl _ _ | refine Below.trans ?_ (Below.mono (by assumption) (by first | exact Nat.le_refl _ | (simp; done) | (simp; omega) | omega))))

set_option maxHeartbeats 1000000 in
set_option maxRecDepth 100000 in
theorem lang_next_4 (b off : Nat) (js : Bool) (c : Int) (h0 : 0 ≤ c) (h1 : c ≤ 255) (w : World) (h : LangAt w b off 4 js) : Calls Tryz.prog 78 #[.pointer (some ⟨b, off, none⟩), .int .u8 c] w fun e w' => e = .returned (.int .i64 (2)) ∧ Below w.heap.size w w' := by
  have hlt : b < w.heap.size := World.block_lt_of_cell? w ⟨b, off, none⟩ h.1
  have h_ := h
  obtain ⟨g0, g1⟩ := h_
  have H := Lib.hid h
  clear h
  have hmf : ∀ (fn : Fn) (first cap : Array Value) (w : World), (Instr.makeFunc fn first cap).run Tryz.prog w = .ok (.func fn first cap) w := fun _ _ _ _ => rfl
  have hset := setRow_new w w.heap.size rfl #[.nilFunc, .nilFunc, .nilFunc, .nilFunc, .nilFunc, .nilFunc, .nilFunc, .nilFunc, .nilFunc, .nilFunc] #[.func (.func 118) #[.pointer (some ⟨b, off, none⟩)] #[], .func (.func 119) #[.pointer (some ⟨b, off, none⟩)] #[], .func (.func 120) #[.pointer (some ⟨b, off, none⟩)] #[], .func (.func 121) #[.pointer (some ⟨b, off, none⟩)] #[], .func (.func 122) #[.pointer (some ⟨b, off, none⟩)] #[], .func (.func 123) #[.pointer (some ⟨b, off, none⟩)] #[], .func (.func 124) #[.pointer (some ⟨b, off, none⟩)] #[], .func (.func 125) #[.pointer (some ⟨b, off, none⟩)] #[], .func (.func 126) #[.pointer (some ⟨b, off, none⟩)] #[], .func (.func 127) #[.pointer (some ⟨b, off, none⟩)] #[]] 124
  have hlast := Lib.hid (heap_new w w.heap.size rfl (.cells #[.nilFunc, .nilFunc, .nilFunc, .nilFunc, .nilFunc, .nilFunc, .nilFunc, .nilFunc, .nilFunc, .nilFunc] 124))
  go_enter Tryz.func78, Tryz.ntmps78
  go_wp2_with (first | (with_reducible refine wpList_store_row (o := ⟨none, .store 124 (.tmp 5) (.tmp 26), _, _, _, _⟩) rfl 124 (.tmp 5) (.tmp 26) rfl w.heap.size #[.func (.func 118) #[.pointer (some ⟨b, off, none⟩)] #[], .func (.func 119) #[.pointer (some ⟨b, off, none⟩)] #[], .func (.func 120) #[.pointer (some ⟨b, off, none⟩)] #[], .func (.func 121) #[.pointer (some ⟨b, off, none⟩)] #[], .func (.func 122) #[.pointer (some ⟨b, off, none⟩)] #[], .func (.func 123) #[.pointer (some ⟨b, off, none⟩)] #[], .func (.func 124) #[.pointer (some ⟨b, off, none⟩)] #[], .func (.func 125) #[.pointer (some ⟨b, off, none⟩)] #[], .func (.func 126) #[.pointer (some ⟨b, off, none⟩)] #[], .func (.func 127) #[.pointer (some ⟨b, off, none⟩)] #[]] ?hx ?hy 124 _ hlast.out ?hi ?hs ?h1 ?_) | (go_at_call 122; refine (lang_singleSlash _ _ 4 js _ (by omega) (by omega) _ (LangAt.below H.out (by with_reducible (repeat (first | refine Below.setCell ?_ (by first | exact Nat.le_refl _ | (simp; done) | (simp; omega) | omega) _ | refine Below.drew ?_ | refine below_drewN ?_ _ | refine Below.alloc ?_ (by first | exact Nat.le_refl _ | (simp; done) | (simp; omega) | omega) _ | exact Below.refl _ _ | refine Below.trans ?_ (Below.mono (by assumption) (by first | exact Nat.le_refl _ | (simp; done) | (simp; omega) | omega))))))).mono ?_; rintro e w1 ⟨rfl, rfl⟩))
  case hx => rfl
  case hy => rfl
  case hi => kernel_rfl
  case hs => rfl
  case h1 => kernel_rfl
  go_wp2_with (first | (go_at_call 122; refine (lang_singleSlash _ _ 4 js _ (by omega) (by omega) _ (LangAt.below H.out (by with_reducible (repeat (first | refine Below.setCell ?_ (by first | exact Nat.le_refl _ | (simp; done) | (simp; omega) | omega) _ | refine Below.drew ?_ | refine below_drewN ?_ _ | refine Below.alloc ?_ (by first | exact Nat.le_refl _ | (simp; done) | (simp; omega) | omega) _ | exact Below.refl _ _ | refine Below.trans ?_ (Below.mono (by assumption) (by first | exact Nat.le_refl _ | (simp; done) | (simp; omega) | omega))))))).mono ?_; rintro e w1 ⟨rfl, rfl⟩))
  go_ret
  refine ⟨rfl, ?_⟩; with_reducible (repeat (first | refine Below.setCell ?_ (by first | exact Nat.le_refl _ | (simp; done) | (simp; omega) | omega) _ | refine Below.drew ?_ | refine below_drewN ?_ _ | refine Below.alloc ?_ (by first | exact Nat.le_refl _ | (simp; done) | (simp; omega) | omega) _ | exact Below.refl _ _ | refine Below.trans ?_ (Below.mono (by assumption) (by first | exact Nat.le_refl _ | (simp; done) | (simp; omega) | omega))))

set_option maxHeartbeats 1000000 in
set_option maxRecDepth 100000 in
theorem lang_next_5 (b off : Nat) (js : Bool) (c : Int) (h0 : 0 ≤ c) (h1 : c ≤ 255) (w : World) (h : LangAt w b off 5 js) : Calls Tryz.prog 78 #[.pointer (some ⟨b, off, none⟩), .int .u8 c] w fun e w' => e = .returned (.int .i64 (lSlash js c)) ∧ Below w.heap.size w w' := by
  have hlt : b < w.heap.size := World.block_lt_of_cell? w ⟨b, off, none⟩ h.1
  have h_ := h
  obtain ⟨g0, g1⟩ := h_
  have H := Lib.hid h
  clear h
  have hmf : ∀ (fn : Fn) (first cap : Array Value) (w : World), (Instr.makeFunc fn first cap).run Tryz.prog w = .ok (.func fn first cap) w := fun _ _ _ _ => rfl
  have hset := setRow_new w w.heap.size rfl #[.nilFunc, .nilFunc, .nilFunc, .nilFunc, .nilFunc, .nilFunc, .nilFunc, .nilFunc, .nilFunc, .nilFunc] #[.func (.func 118) #[.pointer (some ⟨b, off, none⟩)] #[], .func (.func 119) #[.pointer (some ⟨b, off, none⟩)] #[], .func (.func 120) #[.pointer (some ⟨b, off, none⟩)] #[], .func (.func 121) #[.pointer (some ⟨b, off, none⟩)] #[], .func (.func 122) #[.pointer (some ⟨b, off, none⟩)] #[], .func (.func 123) #[.pointer (some ⟨b, off, none⟩)] #[], .func (.func 124) #[.pointer (some ⟨b, off, none⟩)] #[], .func (.func 125) #[.pointer (some ⟨b, off, none⟩)] #[], .func (.func 126) #[.pointer (some ⟨b, off, none⟩)] #[], .func (.func 127) #[.pointer (some ⟨b, off, none⟩)] #[]] 124
  have hlast := Lib.hid (heap_new w w.heap.size rfl (.cells #[.nilFunc, .nilFunc, .nilFunc, .nilFunc, .nilFunc, .nilFunc, .nilFunc, .nilFunc, .nilFunc, .nilFunc] 124))
  go_enter Tryz.func78, Tryz.ntmps78
  go_wp2_with (first | (with_reducible refine wpList_store_row (o := ⟨none, .store 124 (.tmp 5) (.tmp 26), _, _, _, _⟩) rfl 124 (.tmp 5) (.tmp 26) rfl w.heap.size #[.func (.func 118) #[.pointer (some ⟨b, off, none⟩)] #[], .func (.func 119) #[.pointer (some ⟨b, off, none⟩)] #[], .func (.func 120) #[.pointer (some ⟨b, off, none⟩)] #[], .func (.func 121) #[.pointer (some ⟨b, off, none⟩)] #[], .func (.func 122) #[.pointer (some ⟨b, off, none⟩)] #[], .func (.func 123) #[.pointer (some ⟨b, off, none⟩)] #[], .func (.func 124) #[.pointer (some ⟨b, off, none⟩)] #[], .func (.func 125) #[.pointer (some ⟨b, off, none⟩)] #[], .func (.func 126) #[.pointer (some ⟨b, off, none⟩)] #[], .func (.func 127) #[.pointer (some ⟨b, off, none⟩)] #[]] ?hx ?hy 124 _ hlast.out ?hi ?hs ?h1 ?_) | (go_at_call 123; refine (lang_slash _ _ 5 js _ (by omega) (by omega) _ (LangAt.below H.out (by with_reducible (repeat (first | refine Below.setCell ?_ (by first | exact Nat.le_refl _ | (simp; done) | (simp; omega) | omega) _ | refine Below.drew ?_ | refine below_drewN ?_ _ | refine Below.alloc ?_ (by first | exact Nat.le_refl _ | (simp; done) | (simp; omega) | omega) _ | exact Below.refl _ _ | refine Below.trans ?_ (Below.mono (by assumption) (by first | exact Nat.le_refl _ | (simp; done) | (simp; omega) | omega))))))).mono ?_; rintro e w1 ⟨rfl, rfl⟩))
  case hx => rfl
  case hy => rfl
  case hi => kernel_rfl
  case hs => rfl
  case h1 => kernel_rfl
  go_wp2_with (first | (go_at_call 123; refine (lang_slash _ _ 5 js _ (by omega) (by omega) _ (LangAt.below H.out (by with_reducible (repeat (first | refine Below.setCell ?_ (by first | exact Nat.le_refl _ | (simp; done) | (simp; omega) | omega) _ | refine Below.drew ?_ | refine below_drewN ?_ _ | refine Below.alloc ?_ (by first | exact Nat.le_refl _ | (simp; done) | (simp; omega) | omega) _ | exact Below.refl _ _ | refine Below.trans ?_ (Below.mono (by assumption) (by first | exact Nat.le_refl _ | (simp; done) | (simp; omega) | omega))))))).mono ?_; rintro e w1 ⟨rfl, rfl⟩))
  go_ret
  refine ⟨rfl, ?_⟩; with_reducible (repeat (first | refine Below.setCell ?_ (by first | exact Nat.le_refl _ | (simp; done) | (simp; omega) | omega) _ | refine Below.drew ?_ | refine below_drewN ?_ _ | refine Below.alloc ?_ (by first | exact Nat.le_refl _ | (simp; done) | (simp; omega) | omega) _ | exact Below.refl _ _ | refine Below.trans ?_ (Below.mono (by assumption) (by first | exact Nat.le_refl _ | (simp; done) | (simp; omega) | omega))))

set_option maxHeartbeats 1000000 in
set_option maxRecDepth 100000 in
theorem lang_next_6 (b off : Nat) (js : Bool) (c : Int) (h0 : 0 ≤ c) (h1 : c ≤ 255) (w : World) (h : LangAt w b off 6 js) : Calls Tryz.prog 78 #[.pointer (some ⟨b, off, none⟩), .int .u8 c] w fun e w' => e = .returned (.int .i64 (lLine js c)) ∧ Below w.heap.size w w' := by
  have hlt : b < w.heap.size := World.block_lt_of_cell? w ⟨b, off, none⟩ h.1
  have h_ := h
  obtain ⟨g0, g1⟩ := h_
  have H := Lib.hid h
  clear h
  have hmf : ∀ (fn : Fn) (first cap : Array Value) (w : World), (Instr.makeFunc fn first cap).run Tryz.prog w = .ok (.func fn first cap) w := fun _ _ _ _ => rfl
  have hset := setRow_new w w.heap.size rfl #[.nilFunc, .nilFunc, .nilFunc, .nilFunc, .nilFunc, .nilFunc, .nilFunc, .nilFunc, .nilFunc, .nilFunc] #[.func (.func 118) #[.pointer (some ⟨b, off, none⟩)] #[], .func (.func 119) #[.pointer (some ⟨b, off, none⟩)] #[], .func (.func 120) #[.pointer (some ⟨b, off, none⟩)] #[], .func (.func 121) #[.pointer (some ⟨b, off, none⟩)] #[], .func (.func 122) #[.pointer (some ⟨b, off, none⟩)] #[], .func (.func 123) #[.pointer (some ⟨b, off, none⟩)] #[], .func (.func 124) #[.pointer (some ⟨b, off, none⟩)] #[], .func (.func 125) #[.pointer (some ⟨b, off, none⟩)] #[], .func (.func 126) #[.pointer (some ⟨b, off, none⟩)] #[], .func (.func 127) #[.pointer (some ⟨b, off, none⟩)] #[]] 124
  have hlast := Lib.hid (heap_new w w.heap.size rfl (.cells #[.nilFunc, .nilFunc, .nilFunc, .nilFunc, .nilFunc, .nilFunc, .nilFunc, .nilFunc, .nilFunc, .nilFunc] 124))
  go_enter Tryz.func78, Tryz.ntmps78
  go_wp2_with (first | (with_reducible refine wpList_store_row (o := ⟨none, .store 124 (.tmp 5) (.tmp 26), _, _, _, _⟩) rfl 124 (.tmp 5) (.tmp 26) rfl w.heap.size #[.func (.func 118) #[.pointer (some ⟨b, off, none⟩)] #[], .func (.func 119) #[.pointer (some ⟨b, off, none⟩)] #[], .func (.func 120) #[.pointer (some ⟨b, off, none⟩)] #[], .func (.func 121) #[.pointer (some ⟨b, off, none⟩)] #[], .func (.func 122) #[.pointer (some ⟨b, off, none⟩)] #[], .func (.func 123) #[.pointer (some ⟨b, off, none⟩)] #[], .func (.func 124) #[.pointer (some ⟨b, off, none⟩)] #[], .func (.func 125) #[.pointer (some ⟨b, off, none⟩)] #[], .func (.func 126) #[.pointer (some ⟨b, off, none⟩)] #[], .func (.func 127) #[.pointer (some ⟨b, off, none⟩)] #[]] ?hx ?hy 124 _ hlast.out ?hi ?hs ?h1 ?_) | (go_at_call 124; refine (lang_line _ _ 6 js _ (by omega) (by omega) _ (LangAt.below H.out (by with_reducible (repeat (first | refine Below.setCell ?_ (by first | exact Nat.le_refl _ | (simp; done) | (simp; omega) | omega) _ | refine Below.drew ?_ | refine below_drewN ?_ _ | refine Below.alloc ?_ (by first | exact Nat.le_refl _ | (simp; done) | (simp; omega) | omega) _ | exact Below.refl _ _ | refine Below.trans ?_ (Below.mono (by assumption) (by first | exact Nat.le_refl _ | (simp; done) | (simp; omega) | omega))))))).mono ?_; rintro e w1 ⟨rfl, rfl⟩))
  case hx => rfl
  case hy => rfl
  case hi => kernel_rfl
  case hs => rfl
  case h1 => kernel_rfl
  go_wp2_with (first | (go_at_call 124; refine (lang_line _ _ 6 js _ (by omega) (by omega) _ (LangAt.below H.out (by with_reducible (repeat (first | refine Below.setCell ?_ (by first | exact Nat.le_refl _ | (simp; done) | (simp; omega) | omega) _ | refine Below.drew ?_ | refine below_drewN ?_ _ | refine Below.alloc ?_ (by first | exact Nat.le_refl _ | (simp; done) | (simp; omega) | omega) _ | exact Below.refl _ _ | refine Below.trans ?_ (Below.mono (by assumption) (by first | exact Nat.le_refl _ | (simp; done) | (simp; omega) | omega))))))).mono ?_; rintro e w1 ⟨rfl, rfl⟩))
  go_ret
  refine ⟨rfl, ?_⟩; with_reducible (repeat (first | refine Below.setCell ?_ (by first | exact Nat.le_refl _ | (simp; done) | (simp; omega) | omega) _ | refine Below.drew ?_ | refine below_drewN ?_ _ | refine Below.alloc ?_ (by first | exact Nat.le_refl _ | (simp; done) | (simp; omega) | omega) _ | exact Below.refl _ _ | refine Below.trans ?_ (Below.mono (by assumption) (by first | exact Nat.le_refl _ | (simp; done) | (simp; omega) | omega))))

set_option maxHeartbeats 1000000 in
set_option maxRecDepth 100000 in
theorem lang_next_7 (b off : Nat) (js : Bool) (c : Int) (h0 : 0 ≤ c) (h1 : c ≤ 255) (w : World) (h : LangAt w b off 7 js) : Calls Tryz.prog 78 #[.pointer (some ⟨b, off, none⟩), .int .u8 c] w fun e w' => e = .returned (.int .i64 (lBlock c)) ∧ Below w.heap.size w w' := by
  have hlt : b < w.heap.size := World.block_lt_of_cell? w ⟨b, off, none⟩ h.1
  have h_ := h
  obtain ⟨g0, g1⟩ := h_
  have H := Lib.hid h
  clear h
  have hmf : ∀ (fn : Fn) (first cap : Array Value) (w : World), (Instr.makeFunc fn first cap).run Tryz.prog w = .ok (.func fn first cap) w := fun _ _ _ _ => rfl
  have hset := setRow_new w w.heap.size rfl #[.nilFunc, .nilFunc, .nilFunc, .nilFunc, .nilFunc, .nilFunc, .nilFunc, .nilFunc, .nilFunc, .nilFunc] #[.func (.func 118) #[.pointer (some ⟨b, off, none⟩)] #[], .func (.func 119) #[.pointer (some ⟨b, off, none⟩)] #[], .func (.func 120) #[.pointer (some ⟨b, off, none⟩)] #[], .func (.func 121) #[.pointer (some ⟨b, off, none⟩)] #[], .func (.func 122) #[.pointer (some ⟨b, off, none⟩)] #[], .func (.func 123) #[.pointer (some ⟨b, off, none⟩)] #[], .func (.func 124) #[.pointer (some ⟨b, off, none⟩)] #[], .func (.func 125) #[.pointer (some ⟨b, off, none⟩)] #[], .func (.func 126) #[.pointer (some ⟨b, off, none⟩)] #[], .func (.func 127) #[.pointer (some ⟨b, off, none⟩)] #[]] 124
  have hlast := Lib.hid (heap_new w w.heap.size rfl (.cells #[.nilFunc, .nilFunc, .nilFunc, .nilFunc, .nilFunc, .nilFunc, .nilFunc, .nilFunc, .nilFunc, .nilFunc] 124))
  go_enter Tryz.func78, Tryz.ntmps78
  go_wp2_with (first | (with_reducible refine wpList_store_row (o := ⟨none, .store 124 (.tmp 5) (.tmp 26), _, _, _, _⟩) rfl 124 (.tmp 5) (.tmp 26) rfl w.heap.size #[.func (.func 118) #[.pointer (some ⟨b, off, none⟩)] #[], .func (.func 119) #[.pointer (some ⟨b, off, none⟩)] #[], .func (.func 120) #[.pointer (some ⟨b, off, none⟩)] #[], .func (.func 121) #[.pointer (some ⟨b, off, none⟩)] #[], .func (.func 122) #[.pointer (some ⟨b, off, none⟩)] #[], .func (.func 123) #[.pointer (some ⟨b, off, none⟩)] #[], .func (.func 124) #[.pointer (some ⟨b, off, none⟩)] #[], .func (.func 125) #[.pointer (some ⟨b, off, none⟩)] #[], .func (.func 126) #[.pointer (some ⟨b, off, none⟩)] #[], .func (.func 127) #[.pointer (some ⟨b, off, none⟩)] #[]] ?hx ?hy 124 _ hlast.out ?hi ?hs ?h1 ?_) | (go_at_call 125; refine (lang_block _ _ 7 js _ (by omega) (by omega) _ (LangAt.below H.out (by with_reducible (repeat (first | refine Below.setCell ?_ (by first | exact Nat.le_refl _ | (simp; done) | (simp; omega) | omega) _ | refine Below.drew ?_ | refine below_drewN ?_ _ | refine Below.alloc ?_ (by first | exact Nat.le_refl _ | (simp; done) | (simp; omega) | omega) _ | exact Below.refl _ _ | refine Below.trans ?_ (Below.mono (by assumption) (by first | exact Nat.le_refl _ | (simp; done) | (simp; omega) | omega))))))).mono ?_; rintro e w1 ⟨rfl, rfl⟩))
  case hx => rfl
  case hy => rfl
  case hi => kernel_rfl
  case hs => rfl
  case h1 => kernel_rfl
  go_wp2_with (first | (go_at_call 125; refine (lang_block _ _ 7 js _ (by omega) (by omega) _ (LangAt.below H.out (by with_reducible (repeat (first | refine Below.setCell ?_ (by first | exact Nat.le_refl _ | (simp; done) | (simp; omega) | omega) _ | refine Below.drew ?_ | refine below_drewN ?_ _ | refine Below.alloc ?_ (by first | exact Nat.le_refl _ | (simp; done) | (simp; omega) | omega) _ | exact Below.refl _ _ | refine Below.trans ?_ (Below.mono (by assumption) (by first | exact Nat.le_refl _ | (simp; done) | (simp; omega) | omega))))))).mono ?_; rintro e w1 ⟨rfl, rfl⟩))
  go_ret
  refine ⟨rfl, ?_⟩; with_reducible (repeat (first | refine Below.setCell ?_ (by first | exact Nat.le_refl _ | (simp; done) | (simp; omega) | omega) _ | refine Below.drew ?_ | refine below_drewN ?_ _ | refine Below.alloc ?_ (by first | exact Nat.le_refl _ | (simp; done) | (simp; omega) | omega) _ | exact Below.refl _ _ | refine Below.trans ?_ (Below.mono (by assumption) (by first | exact Nat.le_refl _ | (simp; done) | (simp; omega) | omega))))

set_option maxHeartbeats 1000000 in
set_option maxRecDepth 100000 in
theorem lang_next_8 (b off : Nat) (js : Bool) (c : Int) (h0 : 0 ≤ c) (h1 : c ≤ 255) (w : World) (h : LangAt w b off 8 js) : Calls Tryz.prog 78 #[.pointer (some ⟨b, off, none⟩), .int .u8 c] w fun e w' => e = .returned (.int .i64 (lBlockStar c)) ∧ Below w.heap.size w w' := by
  have hlt : b < w.heap.size := World.block_lt_of_cell? w ⟨b, off, none⟩ h.1
  have h_ := h
  obtain ⟨g0, g1⟩ := h_
  have H := Lib.hid h
  clear h
  have hmf : ∀ (fn : Fn) (first cap : Array Value) (w : World), (Instr.makeFunc fn first cap).run Tryz.prog w = .ok (.func fn first cap) w := fun _ _ _ _ => rfl
  have hset := setRow_new w w.heap.size rfl #[.nilFunc, .nilFunc, .nilFunc, .nilFunc, .nilFunc, .nilFunc, .nilFunc, .nilFunc, .nilFunc, .nilFunc] #[.func (.func 118) #[.pointer (some ⟨b, off, none⟩)] #[], .func (.func 119) #[.pointer (some ⟨b, off, none⟩)] #[], .func (.func 120) #[.pointer (some ⟨b, off, none⟩)] #[], .func (.func 121) #[.pointer (some ⟨b, off, none⟩)] #[], .func (.func 122) #[.pointer (some ⟨b, off, none⟩)] #[], .func (.func 123) #[.pointer (some ⟨b, off, none⟩)] #[], .func (.func 124) #[.pointer (some ⟨b, off, none⟩)] #[], .func (.func 125) #[.pointer (some ⟨b, off, none⟩)] #[], .func (.func 126) #[.pointer (some ⟨b, off, none⟩)] #[], .func (.func 127) #[.pointer (some ⟨b, off, none⟩)] #[]] 124
  have hlast := Lib.hid (heap_new w w.heap.size rfl (.cells #[.nilFunc, .nilFunc, .nilFunc, .nilFunc, .nilFunc, .nilFunc, .nilFunc, .nilFunc, .nilFunc, .nilFunc] 124))
  go_enter Tryz.func78, Tryz.ntmps78
  go_wp2_with (first | (with_reducible refine wpList_store_row (o := ⟨none, .store 124 (.tmp 5) (.tmp 26), _, _, _, _⟩) rfl 124 (.tmp 5) (.tmp 26) rfl w.heap.size #[.func (.func 118) #[.pointer (some ⟨b, off, none⟩)] #[], .func (.func 119) #[.pointer (some ⟨b, off, none⟩)] #[], .func (.func 120) #[.pointer (some ⟨b, off, none⟩)] #[], .func (.func 121) #[.pointer (some ⟨b, off, none⟩)] #[], .func (.func 122) #[.pointer (some ⟨b, off, none⟩)] #[], .func (.func 123) #[.pointer (some ⟨b, off, none⟩)] #[], .func (.func 124) #[.pointer (some ⟨b, off, none⟩)] #[], .func (.func 125) #[.pointer (some ⟨b, off, none⟩)] #[], .func (.func 126) #[.pointer (some ⟨b, off, none⟩)] #[], .func (.func 127) #[.pointer (some ⟨b, off, none⟩)] #[]] ?hx ?hy 124 _ hlast.out ?hi ?hs ?h1 ?_) | (go_at_call 126; refine (lang_blockStar _ _ 8 js _ (by omega) (by omega) _ (LangAt.below H.out (by with_reducible (repeat (first | refine Below.setCell ?_ (by first | exact Nat.le_refl _ | (simp; done) | (simp; omega) | omega) _ | refine Below.drew ?_ | refine below_drewN ?_ _ | refine Below.alloc ?_ (by first | exact Nat.le_refl _ | (simp; done) | (simp; omega) | omega) _ | exact Below.refl _ _ | refine Below.trans ?_ (Below.mono (by assumption) (by first | exact Nat.le_refl _ | (simp; done) | (simp; omega) | omega))))))).mono ?_; rintro e w1 ⟨rfl, rfl⟩))
  case hx => rfl
  case hy => rfl
  case hi => kernel_rfl
  case hs => rfl
  case h1 => kernel_rfl
  go_wp2_with (first | (go_at_call 126; refine (lang_blockStar _ _ 8 js _ (by omega) (by omega) _ (LangAt.below H.out (by with_reducible (repeat (first | refine Below.setCell ?_ (by first | exact Nat.le_refl _ | (simp; done) | (simp; omega) | omega) _ | refine Below.drew ?_ | refine below_drewN ?_ _ | refine Below.alloc ?_ (by first | exact Nat.le_refl _ | (simp; done) | (simp; omega) | omega) _ | exact Below.refl _ _ | refine Below.trans ?_ (Below.mono (by assumption) (by first | exact Nat.le_refl _ | (simp; done) | (simp; omega) | omega))))))).mono ?_; rintro e w1 ⟨rfl, rfl⟩))
  go_ret
  refine ⟨rfl, ?_⟩; with_reducible (repeat (first | refine Below.setCell ?_ (by first | exact Nat.le_refl _ | (simp; done) | (simp; omega) | omega) _ | refine Below.drew ?_ | refine below_drewN ?_ _ | refine Below.alloc ?_ (by first | exact Nat.le_refl _ | (simp; done) | (simp; omega) | omega) _ | exact Below.refl _ _ | refine Below.trans ?_ (Below.mono (by assumption) (by first | exact Nat.le_refl _ | (simp; done) | (simp; omega) | omega))))

set_option maxHeartbeats 1000000 in
set_option maxRecDepth 100000 in
theorem lang_next_9 (b off : Nat) (js : Bool) (c : Int) (h0 : 0 ≤ c) (h1 : c ≤ 255) (w : World) (h : LangAt w b off 9 js) : Calls Tryz.prog 78 #[.pointer (some ⟨b, off, none⟩), .int .u8 c] w fun e w' => e = .returned (.int .i64 (9)) ∧ Below w.heap.size w w' := by
  have hlt : b < w.heap.size := World.block_lt_of_cell? w ⟨b, off, none⟩ h.1
  have h_ := h
  obtain ⟨g0, g1⟩ := h_
  have H := Lib.hid h
  clear h
  have hmf : ∀ (fn : Fn) (first cap : Array Value) (w : World), (Instr.makeFunc fn first cap).run Tryz.prog w = .ok (.func fn first cap) w := fun _ _ _ _ => rfl
  have hset := setRow_new w w.heap.size rfl #[.nilFunc, .nilFunc, .nilFunc, .nilFunc, .nilFunc, .nilFunc, .nilFunc, .nilFunc, .nilFunc, .nilFunc] #[.func (.func 118) #[.pointer (some ⟨b, off, none⟩)] #[], .func (.func 119) #[.pointer (some ⟨b, off, none⟩)] #[], .func (.func 120) #[.pointer (some ⟨b, off, none⟩)] #[], .func (.func 121) #[.pointer (some ⟨b, off, none⟩)] #[], .func (.func 122) #[.pointer (some ⟨b, off, none⟩)] #[], .func (.func 123) #[.pointer (some ⟨b, off, none⟩)] #[], .func (.func 124) #[.pointer (some ⟨b, off, none⟩)] #[], .func (.func 125) #[.pointer (some ⟨b, off, none⟩)] #[], .func (.func 126) #[.pointer (some ⟨b, off, none⟩)] #[], .func (.func 127) #[.pointer (some ⟨b, off, none⟩)] #[]] 124
  have hlast := Lib.hid (heap_new w w.heap.size rfl (.cells #[.nilFunc, .nilFunc, .nilFunc, .nilFunc, .nilFunc, .nilFunc, .nilFunc, .nilFunc, .nilFunc, .nilFunc] 124))
  go_enter Tryz.func78, Tryz.ntmps78
  go_wp2_with (first | (with_reducible refine wpList_store_row (o := ⟨none, .store 124 (.tmp 5) (.tmp 26), _, _, _, _⟩) rfl 124 (.tmp 5) (.tmp 26) rfl w.heap.size #[.func (.func 118) #[.pointer (some ⟨b, off, none⟩)] #[], .func (.func 119) #[.pointer (some ⟨b, off, none⟩)] #[], .func (.func 120) #[.pointer (some ⟨b, off, none⟩)] #[], .func (.func 121) #[.pointer (some ⟨b, off, none⟩)] #[], .func (.func 122) #[.pointer (some ⟨b, off, none⟩)] #[], .func (.func 123) #[.pointer (some ⟨b, off, none⟩)] #[], .func (.func 124) #[.pointer (some ⟨b, off, none⟩)] #[], .func (.func 125) #[.pointer (some ⟨b, off, none⟩)] #[], .func (.func 126) #[.pointer (some ⟨b, off, none⟩)] #[], .func (.func 127) #[.pointer (some ⟨b, off, none⟩)] #[]] ?hx ?hy 124 _ hlast.out ?hi ?hs ?h1 ?_) | (go_at_call 127; refine (lang_dirty _ _ 9 js _ (by omega) (by omega) _ (LangAt.below H.out (by with_reducible (repeat (first | refine Below.setCell ?_ (by first | exact Nat.le_refl _ | (simp; done) | (simp; omega) | omega) _ | refine Below.drew ?_ | refine below_drewN ?_ _ | refine Below.alloc ?_ (by first | exact Nat.le_refl _ | (simp; done) | (simp; omega) | omega) _ | exact Below.refl _ _ | refine Below.trans ?_ (Below.mono (by assumption) (by first | exact Nat.le_refl _ | (simp; done) | (simp; omega) | omega))))))).mono ?_; rintro e w1 ⟨rfl, rfl⟩))
  case hx => rfl
  case hy => rfl
  case hi => kernel_rfl
  case hs => rfl
  case h1 => kernel_rfl
  go_wp2_with (first | (go_at_call 127; refine (lang_dirty _ _ 9 js _ (by omega) (by omega) _ (LangAt.below H.out (by with_reducible (repeat (first | refine Below.setCell ?_ (by first | exact Nat.le_refl _ | (simp; done) | (simp; omega) | omega) _ | refine Below.drew ?_ | refine below_drewN ?_ _ | refine Below.alloc ?_ (by first | exact Nat.le_refl _ | (simp; done) | (simp; omega) | omega) _ | exact Below.refl _ _ | refine Below.trans ?_ (Below.mono (by assumption) (by first | exact Nat.le_refl _ | (simp; done) | (simp; omega) | omega))))))).mono ?_; rintro e w1 ⟨rfl, rfl⟩))
  go_ret
  refine ⟨rfl, ?_⟩; with_reducible (repeat (first | refine Below.setCell ?_ (by first | exact Nat.le_refl _ | (simp; done) | (simp; omega) | omega) _ | refine Below.drew ?_ | refine below_drewN ?_ _ | refine Below.alloc ?_ (by first | exact Nat.le_refl _ | (simp; done) | (simp; omega) | omega) _ | exact Below.refl _ _ | refine Below.trans ?_ (Below.mono (by assumption) (by first | exact Nat.le_refl _ | (simp; done) | (simp; omega) | omega))))

theorem lang_next (b off : Nat) (l : Int) (js : Bool) (c : Int) (h0 : 0 ≤ c) (h1 : c ≤ 255) (hl : 0 ≤ l) (hl' : l ≤ 9) (w : World) (h : LangAt w b off l js) : Calls Tryz.prog 78 #[.pointer (some ⟨b, off, none⟩), .int .u8 c] w fun e w' => e = .returned (.int .i64 (lNext l js c)) ∧ Below w.heap.size w w' := by
  obtain ⟨n, rfl⟩ := Int.eq_ofNat_of_zero_le hl
  match n, hl' with
  | 0, _ => exact lang_next_0 b off js c h0 h1 w h
  | 1, _ => exact lang_next_1 b off js c h0 h1 w h
  | 2, _ => exact lang_next_2 b off js c h0 h1 w h
  | 3, _ => exact lang_next_3 b off js c h0 h1 w h
  | 4, _ => exact lang_next_4 b off js c h0 h1 w h
  | 5, _ => exact lang_next_5 b off js c h0 h1 w h
  | 6, _ => exact lang_next_6 b off js c h0 h1 w h
  | 7, _ => exact lang_next_7 b off js c h0 h1 w h
  | 8, _ => exact lang_next_8 b off js c h0 h1 w h
  | 9, _ => exact lang_next_9 b off js c h0 h1 w h
  | n + 10, hq => exact absurd hq (by omega)
end Go.Proofs.YtokclcilpekfiaaGreatDoor
