/- '==' of two states and of two contexts, as one Bool. No condition. -/
import Derived.Test.YtokclcilpekfiaaGreatDoorModel2
import Derived.Laws.StructEq
import Derived.Lib.Strings
namespace Go.Proofs.YtokclcilpekfiaaGreatDoor
open Go.RowKit
section
variable {P : Program} {d : Nat} {xs ys : Array Value} {f : Field} {fs : List Field} {a b : Value} {r s : Bool} {w : World}
theorem fld_cons (hn : (f.name == "_") = false) (ha : (part f.type xs f.offset).run P w = .ok a w) (hb : (part f.type ys f.offset).run P w = .ok b w) (he : (Op.equalIn d f.type a b).run P w = .ok r w)
    (hr : (Op.eqFields d xs ys fs).run P w = .ok s w) : (Op.eqFields d xs ys (f :: fs)).run P w = .ok (r && s) w := by
  have hn' : f.name ≠ "_" := by simpa using hn
  rw [Op.eqFields]
  simp only [if_pos hn', Sem.run_bind, ha, hb, he, Result.andThen_ok]
  cases r
  · simp
  · simpa using hr
theorem fld_nil : (Op.eqFields d xs ys []).run P w = .ok true w := by simp [Op.eqFields]
theorem eq_of_fields {t : TypeId} {fs : Array Field} (hu : P.underlying t = some (.struct fs)) (hp : P.stoodInHeld t = false) (h : (Op.eqFields d xs ys fs.toList).run P w = .ok r w) :
    (Op.equalIn (d + 1) t (.agg xs) (.agg ys)).run P w = .ok r w := by
  have hf : P.fieldsOf t = fs := by simp [Program.fieldsOf, hu]
  rw [run_equalIn_struct (P := P) w d t xs ys (by rw [hf]; exact hu) hp, hf]
  exact h
end
def stEq (x0 : Int) (x1 : ByteArray) (x2 : Bool) (x3 x4 : ByteArray) (x5 y0 : Int) (y1 : ByteArray) (y2 : Bool) (y3 y4 : ByteArray) (y5 : Int) : Bool :=
  x0 == y0 && (x1.toList == y1.toList && (x2 == y2 && (x3.toList == y3.toList && (x4.toList == y4.toList && x5 == y5))))
theorem stEq_same (s t : St) : stSame s t = stEq s.at_ s.name s.fin s.attr s.held s.read t.at_ t.name t.fin t.attr t.held t.read := rfl
theorem toList_inj {a b : ByteArray} (h : a.toList = b.toList) : a = b := by
  rw [Lib.toList_data, Lib.toList_data] at h
  cases a; cases b
  simp at h
  rw [h]
theorem stSame_iff (s t : St) : stSame s t = true ↔ s = t := by
  unfold stSame
  constructor
  · intro h
    simp only [Bool.and_eq_true, beq_iff_eq] at h
    obtain ⟨h0, h1, h2, h3, h4, h5⟩ := h
    cases s; cases t
    simp only [St.mk.injEq]
    exact ⟨h0, toList_inj h1, h2, toList_inj h3, toList_inj h4, h5⟩
  · rintro rfl
    simp
theorem eq_state (d : Nat) (w : World) (x0 y0 : Int) (x1 y1 : ByteArray) (x2 y2 : Bool) (x3 y3 x4 y4 : ByteArray) (x5 y5 : Int) :
    (Op.equalIn (d + 2) 29 (.agg #[.int .i64 x0, .string x1, .bool x2, .string x3, .string x4, .int .i64 x5]) (.agg #[.int .i64 y0, .string y1, .bool y2, .string y3, .string y4, .int .i64 y5])).run Tryz.prog w =
      .ok (stEq x0 x1 x2 x3 x4 x5 y0 y1 y2 y3 y4 y5) w := by
  have e : stEq x0 x1 x2 x3 x4 x5 y0 y1 y2 y3 y4 y5 = (x0 == y0 && (x1.toList == y1.toList && (x2 == y2 && (x3.toList == y3.toList && (x4.toList == y4.toList && (x5 == y5 && true)))))) := by simp [stEq]
  rw [e]
  refine eq_of_fields Tryz.underlying29 (by kernel_rfl) ?_
  iterate 6 refine fld_cons (by rfl) (by go_simp; rfl) (by go_simp; rfl) (by go_simp) ?_
  exact fld_nil
def cxEq (x0 : Int) (x1 : ByteArray) (x2 : Bool) (x3 x4 : ByteArray) (x5 : Int) (x6 : Bool) (x7 x8 x9 y0 : Int) (y1 : ByteArray) (y2 : Bool) (y3 y4 : ByteArray) (y5 : Int) (y6 : Bool) (y7 y8 y9 : Int) : Bool :=
  stEq x0 x1 x2 x3 x4 x5 y0 y1 y2 y3 y4 y5 && (x6 == y6 && (x7 == y7 && (x8 == y8 && x9 == y9)))
def cxSame (c d : Cx) : Bool := stSame c.st d.st && (c.ref == d.ref && (c.kind == d.kind && (c.url == d.url && c.lang == d.lang)))
theorem cxEq_same (c d : Cx) : cxSame c d = cxEq c.st.at_ c.st.name c.st.fin c.st.attr c.st.held c.st.read c.ref c.kind c.url c.lang d.st.at_ d.st.name d.st.fin d.st.attr d.st.held d.st.read d.ref d.kind d.url d.lang := rfl
theorem cxSame_iff (c d : Cx) : cxSame c d = true ↔ c = d := by
  unfold cxSame
  constructor
  · intro h
    simp only [Bool.and_eq_true, beq_iff_eq, stSame_iff] at h
    obtain ⟨h0, h1, h2, h3, h4⟩ := h
    cases c; cases d
    simp only [Cx.mk.injEq]
    exact ⟨h0, h1, h2, h3, h4⟩
  · rintro rfl
    simp [stSame_iff]
theorem eq_ctx (d : Nat) (w : World) (x0 y0 : Int) (x1 y1 : ByteArray) (x2 y2 : Bool) (x3 y3 x4 y4 : ByteArray) (x5 y5 : Int) (x6 y6 : Bool) (x7 y7 x8 y8 x9 y9 : Int) :
    (Op.equalIn (d + 3) 31 (.agg #[.int .i64 x0, .string x1, .bool x2, .string x3, .string x4, .int .i64 x5, .bool x6, .int .i64 x7, .int .i64 x8, .int .i64 x9]) (.agg #[.int .i64 y0, .string y1, .bool y2, .string y3, .string y4, .int .i64 y5, .bool y6, .int .i64 y7, .int .i64 y8, .int .i64 y9])).run Tryz.prog w =
      .ok (cxEq x0 x1 x2 x3 x4 x5 x6 x7 x8 x9 y0 y1 y2 y3 y4 y5 y6 y7 y8 y9) w := by
  have e : cxEq x0 x1 x2 x3 x4 x5 x6 x7 x8 x9 y0 y1 y2 y3 y4 y5 y6 y7 y8 y9 = (stEq x0 x1 x2 x3 x4 x5 y0 y1 y2 y3 y4 y5 && (x6 == y6 && (x7 == y7 && (x8 == y8 && (x9 == y9 && true))))) := by simp [cxEq]
  rw [e]
  refine eq_of_fields Tryz.underlying31 (by kernel_rfl) ?_
  refine fld_cons (by rfl) (by first | (go_simp; done) | (go_simp; rfl)) (by first | (go_simp; done) | (go_simp; rfl)) (eq_state d w _ _ _ _ _ _ _ _ _ _ _ _) ?_
  iterate 4 refine fld_cons (by rfl) (by go_simp; rfl) (by go_simp; rfl) (by go_simp) ?_
  exact fld_nil
end Go.Proofs.YtokclcilpekfiaaGreatDoor
