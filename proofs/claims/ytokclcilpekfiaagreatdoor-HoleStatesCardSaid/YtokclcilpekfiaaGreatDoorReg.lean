/- Steps through a region that draws its order, where loads stand beside a call that makes memory: an operation that is taken first, one whose guard is off, the call. No condition. -/
import Derived.Test.YtokclcilpekfiaaGreatDoorBase
import Derived.Deep.RegionHeld3
namespace Go.Proofs.YtokclcilpekfiaaGreatDoor
open Go.RowKit
section
variable {P : Program} {ops : Array Oper} {Q : Exit → Act → World → Prop} {md : Region.Mode} {S : World → Prop}
def freeB (md : Region.Mode) (ops : Array Oper) (l : Array Bool) (i : Nat) : Bool := Region.noSelect ops && (Region.free md ops l i && (Region.ready md ops l).contains i)
/-- An operation whose guard is off. -/
theorem reg_off {i fuel : Nat} {o : Oper} {l : Array Bool} {a : Act} {w : World} (d : Option Tmp) (hi : ops[i]? = some o) (hd : o.dst = d) (hc : freeB md ops l i = true)
    (hQ : ∀ c a w, Q (.panic c) (a.put o.dst undef) w → Q (.panic c) a w) (hw : Region.wanted o (yielded ops a.tmps) = false) (hS : S w)
    (h : wpAnyH P md ops Q S fuel (l.setIfInBounds i true) (a.put d undef) w) : wpAnyH P md ops Q S (fuel + 1) l a w := by
  subst hd
  simp only [freeB, Bool.and_eq_true] at hc
  exact wpAnyH_take hi hc.1 hc.2.1 hc.2.2 hQ (Or.inr ⟨hw, rfl⟩) hS h
/-- An operation that yields a value in every world that meets S. -/
theorem reg_on {i fuel : Nat} {o : Oper} {l : Array Bool} {a : Act} {w : World} (d : Option Tmp) (v : Value) (hi : ops[i]? = some o) (hd : o.dst = d) (hc : freeB md ops l i = true)
    (hQ : ∀ c a w, Q (.panic c) (a.put o.dst v) w → Q (.panic c) a w) (hw : Region.wanted o (yielded ops a.tmps) = true) (hv : ∀ w, S w → (execOp a.eval o).run P w = .ok (.value v) w) (hS : S w)
    (h : wpAnyH P md ops Q S fuel (l.setIfInBounds i true) (a.put d v) w) : wpAnyH P md ops Q S (fuel + 1) l a w := by
  subst hd
  simp only [freeB, Bool.and_eq_true] at hc
  exact wpAnyH_take hi hc.1 hc.2.1 hc.2.2 hQ (Or.inl ⟨hw, hv⟩) hS h
end

/-- What has come up: the first n of N. -/
def lst (N n : Nat) : Array Bool := (List.replicate n true ++ List.replicate (N - n) false).toArray
theorem lst_zero (N : Nat) : lst N 0 = Array.replicate N false := by simp [lst]
theorem lst_set {N n : Nat} (h : n < N) : (lst N n).setIfInBounds n true = lst N (n + 1) := by
  unfold lst
  rw [List.setIfInBounds_toArray]
  congr 1
  have e : N - n = (N - (n + 1)) + 1 := by omega
  rw [e, List.replicate_succ, List.set_append_right _ _ (by simp), List.replicate_succ']
  simp
section
variable {P : Program} {ops : Array Oper} {Q : Exit → Act → World → Prop} {md : Region.Mode} {S : World → Prop}
def lexB (md : Region.Mode) (ops : Array Oper) (N n : Nat) : Bool := decide (n < N) && freeB md ops (lst N n) n
/-- THE BEGINNING of a walk in the text's order. -/
theorem lex_start {id : Nat} {a : Act} {w : World} (N : Nat) (hN : ops.size = N) (hm : P.follows .mixedOrders = true) (hS : S w.drew)
    (h : S w.drew → wpAnyH P .any ops Q S N (lst N 0) a w.drew) : (Code.region id ops true).wp P Q a w := by
  subst hN
  refine wp_region_held_drew hm hS ?_
  rw [← lst_zero]
  exact h
/-- The next operation's guard is off. -/
theorem lex_off {N n fuel : Nat} {o : Oper} {a : Act} {w : World} (d : Option Tmp) (hi : ops[n]? = some o) (hd : o.dst = d) (hc : lexB md ops N n = true)
    (hQ : ∀ c a w, Q (.panic c) (a.put o.dst undef) w → Q (.panic c) a w) (hw : Region.wanted o (yielded ops a.tmps) = false) (hS : S w)
    (h : wpAnyH P md ops Q S fuel (lst N (n + 1)) (a.put d undef) w) : wpAnyH P md ops Q S (fuel + 1) (lst N n) a w := by
  simp only [lexB, Bool.and_eq_true, decide_eq_true_eq] at hc
  rw [← lst_set hc.1] at h
  exact reg_off d hi hd hc.2 hQ hw hS h
/-- The next operation yields a value in every world that meets S. -/
theorem lex_on {N n fuel : Nat} {o : Oper} {a : Act} {w : World} (d : Option Tmp) (v : Value) (hi : ops[n]? = some o) (hd : o.dst = d) (hc : lexB md ops N n = true)
    (hQ : ∀ c a w, Q (.panic c) (a.put o.dst v) w → Q (.panic c) a w) (hw : Region.wanted o (yielded ops a.tmps) = true) (hv : ∀ w, S w → (execOp a.eval o).run P w = .ok (.value v) w) (hS : S w)
    (h : wpAnyH P md ops Q S fuel (lst N (n + 1)) (a.put d v) w) : wpAnyH P md ops Q S (fuel + 1) (lst N n) a w := by
  simp only [lexB, Bool.and_eq_true, decide_eq_true_eq] at hc
  rw [← lst_set hc.1] at h
  exact reg_on d v hi hd hc.2 hQ hw hv hS h
def loneB (md : Region.Mode) (ops : Array Oper) (N n : Nat) : Bool := decide (n < N) && (Region.ready md ops (lst N n) == [n])
/-- The next operation alone may come up: it is run; S is shown behind it. -/
theorem lex_call {N n fuel : Nat} {o : Oper} {a : Act} {w : World} (hi : ops[n]? = some o) (hc : loneB md ops N n = true)
    (h : ∀ K : Act → World → Prop, Shut (∀ a w, S w → (S w → wpAnyH P md ops Q S fuel (lst N (n + 1)) a w) → K a w) → if Region.wanted o (yielded ops a.tmps) = true then Oper.wp P o a w K Q else K (a.put o.dst undef) w) :
    wpAnyH P md ops Q S (fuel + 1) (lst N n) a w := by
  simp only [loneB, Bool.and_eq_true, decide_eq_true_eq, beq_iff_eq] at hc
  refine wpAnyH_ready (rs := [n]) hc.2 (by simp) (AllReadyH.cons hi ?_ AllReadyH.nil)
  rw [lst_set hc.1]
  exact h
theorem lex_done {N : Nat} {a : Act} {w : World} (hr : (Region.ready md ops (lst N N) == []) = true) (h : Q .normal a w) (fuel : Nat) : wpAnyH P md ops Q S fuel (lst N N) a w :=
  wpAnyH_done (by simpa using hr) h fuel
end
theorem chain6 (a b c d e f : Bool) : (a = true) ∨ (a = false ∧ b = true) ∨ (a = false ∧ b = false ∧ c = true) ∨ (a = false ∧ b = false ∧ c = false ∧ d = true) ∨ (a = false ∧ b = false ∧ c = false ∧ d = false ∧ e = true) ∨ (a = false ∧ b = false ∧ c = false ∧ d = false ∧ e = false ∧ f = true) ∨ (a = false ∧ b = false ∧ c = false ∧ d = false ∧ e = false ∧ f = false) := by
  cases a with
  | true => simp
  | false =>
    cases b with
    | true => simp
    | false =>
      cases c with
      | true => simp
      | false =>
        cases d with
        | true => simp
        | false =>
          cases e with
          | true => simp
          | false =>
            cases f with
            | true => simp
            | false =>
              simp
theorem chain9 (a b c d e f g h i : Bool) : (a = true) ∨ (a = false ∧ b = true) ∨ (a = false ∧ b = false ∧ c = true) ∨ (a = false ∧ b = false ∧ c = false ∧ d = true) ∨ (a = false ∧ b = false ∧ c = false ∧ d = false ∧ e = true) ∨ (a = false ∧ b = false ∧ c = false ∧ d = false ∧ e = false ∧ f = true) ∨ (a = false ∧ b = false ∧ c = false ∧ d = false ∧ e = false ∧ f = false ∧ g = true) ∨ (a = false ∧ b = false ∧ c = false ∧ d = false ∧ e = false ∧ f = false ∧ g = false ∧ h = true) ∨ (a = false ∧ b = false ∧ c = false ∧ d = false ∧ e = false ∧ f = false ∧ g = false ∧ h = false ∧ i = true) ∨ (a = false ∧ b = false ∧ c = false ∧ d = false ∧ e = false ∧ f = false ∧ g = false ∧ h = false ∧ i = false) := by
  cases a with
  | true => simp
  | false =>
    cases b with
    | true => simp
    | false =>
      cases c with
      | true => simp
      | false =>
        cases d with
        | true => simp
        | false =>
          cases e with
          | true => simp
          | false =>
            cases f with
            | true => simp
            | false =>
              cases g with
              | true => simp
              | false =>
                cases h with
                | true => simp
                | false =>
                  cases i with
                  | true => simp
                  | false =>
                    simp
end Go.Proofs.YtokclcilpekfiaaGreatDoor
