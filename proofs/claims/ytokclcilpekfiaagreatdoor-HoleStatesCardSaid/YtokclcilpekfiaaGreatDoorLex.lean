/- A walk through a region that draws its order, in the order of its text: one check of the whole order ahead, then an operation a step. No condition. -/
import Derived.Test.YtokclcilpekfiaaGreatDoorReg
namespace Go.Proofs.YtokclcilpekfiaaGreatDoor
open Go.RowKit
section
variable {P : Program} {ops : Array Oper} {Q : Exit → Act → World → Prop} {S : World → Prop} {gt : Nat → Nat}
/-- The guard of an operation is off, read off the temporaries. -/
def gOff (gt : Nat → Nat) (o : Oper) (t : Array Value) : Bool :=
  match o.guard with
  | none => false
  | some (j, want) => match t[gt j]? with
    | some (.bool b) => b != want
    | _ => true
def gOK (ops : Array Oper) (gt : Nat → Nat) (o : Oper) : Bool :=
  match o.guard with
  | none => true
  | some (j, _) => ((ops[j]?).bind (·.dst)) == some (gt j)
def lexAt (ops : Array Oper) (gt : Nat → Nat) (N n : Nat) : Bool :=
  (match ops[n]? with | some o => gOK ops gt o | none => false) &&
  ((Region.free .any ops (lst N n) n && (Region.ready .any ops (lst N n)).contains n) || (Region.ready .any ops (lst N n) == [n]))
def lexAll (ops : Array Oper) (gt : Nat → Nat) (N : Nat) : Bool :=
  Region.noSelect ops && ((ops.size == N) && ((Region.ready .any ops (lst N N) == []) && (List.range N).all fun n => lexAt ops gt N n))
/-- What is left of the region, the operations ahead having come up. -/
def LexG (P : Program) (ops : Array Oper) (Q : Exit → Act → World → Prop) (S : World → Prop) (gt : Nat → Nat) (rest : List Oper) (a : Act) (w : World) : Prop :=
  ∀ N n, lexAll ops gt N = true → n + rest.length = N → ops.toList.drop n = rest → (∀ c (a : Act) d v w, Q (.panic c) (a.put d v) w → Q (.panic c) a w) → wpAnyH P .any ops Q S rest.length (lst N n) a w
theorem lexAll_at {N n : Nat} (h : lexAll ops gt N = true) (hn : n < N) : Region.noSelect ops = true ∧ lexAt ops gt N n = true := by
  simp only [lexAll, Bool.and_eq_true, List.all_eq_true, List.mem_range] at h
  exact ⟨h.1, h.2.2.2 n hn⟩
theorem drop_cons {o : Oper} {rest : List Oper} {n : Nat} (h : ops.toList.drop n = o :: rest) : ops[n]? = some o ∧ ops.toList.drop (n + 1) = rest := by
  constructor
  · have : (ops.toList.drop n)[0]? = some o := by rw [h]; rfl
    rw [List.getElem?_drop] at this
    simpa using this
  · have : (ops.toList.drop n).drop 1 = rest := by rw [h]; rfl
    rw [List.drop_drop] at this
    exact this
theorem gOff_wanted {o : Oper} {t : Array Value} (h : gOK ops gt o = true) : Region.wanted o (yielded ops t) = !gOff gt o t := by
  unfold gOK at h
  unfold Region.wanted gOff
  cases hg : o.guard with
  | none => rfl
  | some p =>
    obtain ⟨j, want⟩ := p
    rw [hg] at h
    simp only [beq_iff_eq] at h
    simp only [yielded, h, Option.bind_some]
    cases t[gt j]? with
    | none => rfl
    | some v => cases v <;> first | rfl | (rename_i b; cases b <;> cases want <;> rfl)
theorem lexg_off {o : Oper} {rest : List Oper} {a : Act} {w : World} (d : Option Tmp) (hd : o.dst = d) (hg : gOff gt o a.tmps = true) (hS : S w)
    (h : LexG P ops Q S gt rest (a.put d undef) w) : LexG P ops Q S gt (o :: rest) a w := by
  intro N n hl hn hdr hQ
  simp only [List.length_cons] at hn ⊢
  obtain ⟨hi, hr⟩ := drop_cons hdr
  obtain ⟨hs, ha⟩ := lexAll_at hl (show n < N by omega)
  simp only [lexAt, hi, Bool.and_eq_true, Bool.or_eq_true, beq_iff_eq] at ha
  have hw : Region.wanted o (yielded ops a.tmps) = false := by rw [gOff_wanted ha.1, hg]; rfl
  have hh := h N (n + 1) hl (by omega) hr hQ
  subst hd
  rw [← lst_set (show n < N by omega)] at hh
  rcases ha.2 with hf | hf
  · exact wpAnyH_take hi hs hf.1 hf.2 (fun c a w => hQ c a _ _ w) (Or.inr ⟨hw, rfl⟩) hS hh
  · refine wpAnyH_ready (rs := [n]) hf (by simp) (AllReadyH.cons hi (fun K hK => ?_) AllReadyH.nil)
    rw [if_neg (by simp [hw])]
    exact hK.out _ _ hS (fun _ => hh)
theorem lexg_on {o : Oper} {rest : List Oper} {a : Act} {w : World} (d : Option Tmp) (v : Value) (hd : o.dst = d) (hg : gOff gt o a.tmps = false)
    (hv : ∀ w, S w → (execOp a.eval o).run P w = .ok (.value v) w) (hS : S w)
    (h : LexG P ops Q S gt rest (a.put d v) w) : LexG P ops Q S gt (o :: rest) a w := by
  intro N n hl hn hdr hQ
  simp only [List.length_cons] at hn ⊢
  obtain ⟨hi, hr⟩ := drop_cons hdr
  obtain ⟨hs, ha⟩ := lexAll_at hl (show n < N by omega)
  simp only [lexAt, hi, Bool.and_eq_true, Bool.or_eq_true, beq_iff_eq] at ha
  have hw : Region.wanted o (yielded ops a.tmps) = true := by rw [gOff_wanted ha.1, hg]; rfl
  have hh := h N (n + 1) hl (by omega) hr hQ
  subst hd
  rw [← lst_set (show n < N by omega)] at hh
  rcases ha.2 with hf | hf
  · exact wpAnyH_take hi hs hf.1 hf.2 (fun c a w => hQ c a _ _ w) (Or.inl ⟨hw, hv⟩) hS hh
  · refine wpAnyH_ready (rs := [n]) hf (by simp) (AllReadyH.cons hi (fun K hK => ?_) AllReadyH.nil)
    rw [if_pos hw, Oper.wp, hv w hS, Oper.upon_value]
    exact hK.out _ _ hS (fun _ => hh)
def undefAt (t : Array Value) (d : Option Tmp) : Bool :=
  match d with
  | none => true
  | some d => match t[d]? with
    | some (.tuple vs) => vs.size == 0
    | _ => false
theorem put_undef {a : Act} {d : Option Tmp} (h : undefAt a.tmps d = true) : a.put d undef = a := by
  cases d with
  | none => rfl
  | some d =>
    unfold undefAt at h
    dsimp only at h
    cases hg : a.tmps[d]? with
    | none => rw [hg] at h; simp at h
    | some v =>
      rw [hg] at h
      cases v <;> simp at h
      rename_i vs
      have hv : vs = #[] := by simpa using h
      subst hv
      unfold Act.put
      dsimp only
      congr 1
      apply Array.ext_getElem?
      intro i
      rw [Array.getElem?_setIfInBounds]
      split
      · rename_i hi
        subst hi
        have hlt := (Array.getElem?_eq_some_iff.1 hg).1
        rw [if_pos hlt, hg]
        rfl
      · rfl
def skipB (gt : Nat → Nat) : List Oper → Nat → Array Value → Bool
  | _, 0, _ => true
  | [], _ + 1, _ => false
  | o :: l, k + 1, t => gOff gt o t && (undefAt t o.dst && skipB gt l k t)
/-- So many operations whose guards are off, at once. -/
theorem lexg_skip (k : Nat) {l : List Oper} {a : Act} {w : World} (hs : skipB gt l k a.tmps = true) (hS : S w) (h : LexG P ops Q S gt (l.drop k) a w) : LexG P ops Q S gt l a w := by
  induction k generalizing l with
  | zero => exact h
  | succ k ih =>
    cases l with
    | nil => simp [skipB] at hs
    | cons o l =>
      simp only [skipB, Bool.and_eq_true] at hs
      refine lexg_off o.dst rfl hs.1 hS ?_
      rw [put_undef hs.2.1]
      exact ih hs.2.2 (by simpa using h)
def isCallB (ops : Array Oper) (N n : Nat) : Bool := Region.ready .any ops (lst N n) == [n]
/-- An operation that comes up alone: it is run; S is shown behind it. -/
theorem lexg_call {o : Oper} {rest : List Oper} {a : Act} {w : World} (N : Nat) (h1 : lexAll ops gt N = true) (hc : isCallB ops N (N - (rest.length + 1)) = true) (hg : gOff gt o a.tmps = false)
    (h : ∀ K : Act → World → Prop, Shut (∀ a w, S w → (S w → LexG P ops Q S gt rest a w) → K a w) → Oper.wp P o a w K Q) : LexG P ops Q S gt (o :: rest) a w := by
  intro M n hl hn hdr hQ
  simp only [List.length_cons] at hn ⊢
  obtain ⟨hi, hr⟩ := drop_cons hdr
  obtain ⟨hs, ha⟩ := lexAll_at hl (show n < M by omega)
  simp only [lexAt, hi, Bool.and_eq_true, Bool.or_eq_true, beq_iff_eq] at ha
  have hMN : M = N := by
    simp only [lexAll, Bool.and_eq_true, beq_iff_eq] at h1 hl
    rw [← hl.2.1, h1.2.1]
  subst hMN
  have hw : Region.wanted o (yielded ops a.tmps) = true := by rw [gOff_wanted ha.1, hg]; rfl
  have hf : Region.ready .any ops (lst M n) = [n] := by
    have := hc
    rw [show M - (rest.length + 1) = n by omega] at this
    simpa [isCallB] using this
  refine wpAnyH_ready (rs := [n]) hf (by simp) (AllReadyH.cons hi (fun K hK => ?_) AllReadyH.nil)
  rw [if_pos hw]
  refine h K (fun a w hS hG => hK.out a w hS (fun hS' => ?_))
  rw [lst_set (show n < M by omega)]
  exact hG hS' M (n + 1) hl (by omega) hr hQ
theorem lexg_done {a : Act} {w : World} (h : Q .normal a w) : LexG P ops Q S gt [] a w := by
  intro N n hl hn _ _
  simp only [List.length_nil, Nat.add_zero] at hn ⊢
  subst hn
  simp only [lexAll, Bool.and_eq_true, beq_iff_eq] at hl
  exact wpAnyH_done hl.2.2.1 h _
/-- THE BEGINNING. -/
theorem lexg_start {ops' : Array Oper} {id : Nat} {a : Act} {w : World} (ops : Array Oper) (gt : Nat → Nat) (N : Nat) (hl : lexAll ops gt N = true) {l : List Oper} (he : ops' = l.toArray) (ho : ops = ops') (hm : P.follows .mixedOrders = true) (hS : S w.drew)
    (hQ : ∀ c (a : Act) d v w, Q (.panic c) (a.put d v) w → Q (.panic c) a w)
    (h : S w.drew → LexG P ops Q S gt l a w.drew) : (Code.region id ops' true).wp P Q a w := by
  subst ho
  have hN : ops.size = N := by
    simp only [lexAll, Bool.and_eq_true, beq_iff_eq] at hl
    exact hl.2.1
  have hlen : l.length = N := by rw [← hN, he]; simp
  refine wp_region_held_drew hm hS (fun hS' => ?_)
  have := h hS' N 0 hl (by omega) (by rw [he]; rfl) hQ
  rw [hlen] at this
  rw [← lst_zero, hN]
  exact this
end
/-- A region's operations, found in a body by its number. -/
def regOps (id : Nat) : Code → Option (Array Oper)
  | .region i ops _ => if i == id then some ops else none
  | .seq a b => match regOps id a with | some x => some x | none => regOps id b
  | .cond _ a b => match regOps id a with | some x => some x | none => regOps id b
  | .block _ b => regOps id b
  | .loop b => regOps id b
  | .scope b => regOps id b
  | _ => none
def regOf (f : Func) (id : Nat) : Array Oper := ((f.body.bind (regOps id)).getD #[])
end Go.Proofs.YtokclcilpekfiaaGreatDoor
