/- Rows and tables that came in, opened. -/
import Derived.Test.YteodplednmeaaaaR
namespace Go.Proofs.Yteodplednmeaaaa
open Go.ChangeShapes Go.WideShapes Go.RowKit Go.Joins Go.Deep
set_option linter.unusedVariables false
set_option linter.unusedSimpArgs false

section
variable {H : Type} {enc : TypeId × Value → H} {P : Program} {w : World} {base : Nat} {spare : Nat → Bool} {held : Bool}
theorem struct_parts {t : TypeId} {fs : Array Field} {ps : Array (TypeId × Nat)} {v : Value} {r : Reach} {b0 : Nat} {d : DataW H} {p : List MemPlace} {n : Nat} (ht : P.underlying t = some (.struct fs)) (hp : fs.map (fun f => (f.type, f.offset)) = ps) (hn : P.cellsOf t = n)
    (h1 : ∀ q ∈ ps.toList, P.cellsOf q.1 = 1) (hv : Value.okWide P w r b0 t v) (h : DataW.Trod enc P w base spare held t v d p) :
    ∃ cs, v = .agg cs ∧ cs.size = n ∧ ∀ (i : Nat) (q : TypeId × Nat), ps[i]? = some q → q.2 < n → ∃ m x, DataW.trod enc P w base spare held m q.1 [cs[q.2]?.getD undef] = some x := by
  obtain ⟨cs, rfl, hs⟩ := okWide_struct ht hv
  obtain ⟨fuel, hf⟩ := h
  obtain ⟨xs, m, _, _, hl, hlen, hfld⟩ := DataW.trod_struct ht hf
  refine ⟨cs, rfl, hs.trans hn, fun i q hq hlt => ?_⟩
  subst hp
  rw [Array.getElem?_map] at hq
  cases hfi : fs[i]? with
  | none => rw [hfi] at hq; cases hq
  | some f =>
    rw [hfi] at hq
    simp only [Option.map_some, Option.some.injEq] at hq
    subst hq
    have := hfld i f hfi
    have hi : i < xs.length := by rw [hlen]; exact (Array.getElem?_eq_some_iff.1 hfi).1
    rw [List.getElem?_eq_getElem hi] at this
    have h11 : P.cellsOf f.type = 1 := h1 (f.type, f.offset) (by
      rw [Array.toList_map]
      exact List.mem_map.2 ⟨f, by simpa using Array.mem_of_getElem? hfi, rfl⟩)
    rw [h11] at this
    refine ⟨m, xs[i], ?_⟩
    have e : (Value.agg cs).cells.toList = cs.toList := rfl
    rw [e] at this
    have h2 : f.offset < cs.toList.length := by simp only [Array.length_toList]; rw [hs, hn]; exact hlt
    rw [List.drop_eq_getElem_cons h2] at this
    simp only [List.take_succ_cons, List.take_zero] at this
    have h3 : f.offset < cs.size := by simpa using h2
    rw [Array.getElem?_eq_getElem h3]
    simpa using this
end

section
variable {H : Type} {enc : TypeId × Value → H} {w : World} {base : Nat} {spare : Nat → Bool} {held : Bool}
theorem rows_map : (Try.prog.fieldsOf 33).map (fun f => (f.type, f.offset)) = #[(2, 0), (22, 1), (22, 2), (22, 3)] := by kernel_rfl
theorem rows_cells : Try.prog.cellsOf 33 = 4 := by kernel_rfl
theorem rows_one : ∀ q ∈ (#[(2, 0), (22, 1), (22, 2), (22, 3)] : Array (TypeId × Nat)).toList, Try.prog.cellsOf q.1 = 1 := by
  intro q hq
  simp only [List.mem_cons, List.not_mem_nil, or_false] at hq
  rcases hq with rfl | rfl | rfl | rfl <;> kernel_rfl
set_option maxRecDepth 100000 in
theorem open_rows_arg {r : Reach} {b0 : Nat} {v : Value} {d : DataW H} {p : List MemPlace} (hv : Value.okWide Try.prog w r b0 33 v) (h : DataW.Trod enc Try.prog w base spare held 33 v d p) :
    ∃ (a : Int) (A1 A2 A3 : Option Addr) (n1 n2 n3 c1 c2 c3 : Nat) (L1 L2 L3 : List Nat), v = .agg #[.int .i64 a, .slice A1 n1 c1, .slice A2 n2 c2, .slice A3 n3 c3] ∧ FArg w A1 n1 L1 ∧ FArg w A2 n2 L2 ∧ FArg w A3 n3 L3 := by
  obtain ⟨cs, rfl, hs, hh⟩ := struct_parts rows_struct rows_map rows_cells rows_one hv h
  obtain ⟨m0, x0, t0⟩ := hh 0 _ rfl (by decide)
  obtain ⟨m1, x1, t1⟩ := hh 1 _ rfl (by decide)
  obtain ⟨m2, x2, t2⟩ := hh 2 _ rfl (by decide)
  obtain ⟨m3, x3, t3⟩ := hh 3 _ rfl (by decide)
  obtain ⟨l⟩ := cs
  match l, hs with
  | [y0, y1, y2, y3], _ =>
    obtain ⟨a, e0, _⟩ := dec_int Try.underlying2 _ y0 _ (by simpa using t0)
    obtain ⟨A1, n1, c1, L1, e1, f1⟩ := open_floats_trod (v := y1) (by simpa using t1)
    obtain ⟨A2, n2, c2, L2, e2, f2⟩ := open_floats_trod (v := y2) (by simpa using t2)
    obtain ⟨A3, n3, c3, L3, e3, f3⟩ := open_floats_trod (v := y3) (by simpa using t3)
    subst e0; subst e1; subst e2; subst e3
    exact ⟨a, A1, A2, A3, n1, n2, n3, c1, c2, c3, L1, L2, L3, rfl, f1, f2, f3⟩
theorem table_struct : Try.prog.underlying 43 = some (.struct (Try.prog.fieldsOf 43)) := by kernel_rfl
theorem table_map : (Try.prog.fieldsOf 43).map (fun f => (f.type, f.offset)) = #[(2, 0), (22, 1), (41, 2)] := by kernel_rfl
theorem table_cells : Try.prog.cellsOf 43 = 3 := by kernel_rfl
theorem table_one : ∀ q ∈ (#[(2, 0), (22, 1), (41, 2)] : Array (TypeId × Nat)).toList, Try.prog.cellsOf q.1 = 1 := by
  intro q hq
  simp only [List.mem_cons, List.not_mem_nil, or_false] at hq
  rcases hq with rfl | rfl | rfl <;> kernel_rfl
set_option maxRecDepth 100000 in
theorem open_table_arg {r : Reach} {b0 : Nat} {v : Value} {d : DataW H} {p : List MemPlace} (hv : Value.okWide Try.prog w r b0 43 v) (h : DataW.Trod enc Try.prog w base spare held 43 v d p) :
    ∃ (a : Int) (A1 A2 : Option Addr) (n1 n2 c1 c2 : Nat) (L1 : List Nat) (L2 : List Int), v = .agg #[.int .i64 a, .slice A1 n1 c1, .slice A2 n2 c2] ∧ (Lit.int .i64 a).wf = true ∧ FArg w A1 n1 L1 ∧ IArg w A2 n2 L2 := by
  obtain ⟨cs, rfl, hs, hh⟩ := struct_parts table_struct table_map table_cells table_one hv h
  obtain ⟨m0, x0, t0⟩ := hh 0 _ rfl (by decide)
  obtain ⟨m1, x1, t1⟩ := hh 1 _ rfl (by decide)
  obtain ⟨m2, x2, t2⟩ := hh 2 _ rfl (by decide)
  obtain ⟨l⟩ := cs
  match l, hs with
  | [y0, y1, y2], _ =>
    obtain ⟨a, e0, w0⟩ := dec_int Try.underlying2 _ y0 _ (by simpa using t0)
    obtain ⟨A1, n1, c1, L1, e1, f1⟩ := open_floats_trod (v := y1) (by simpa using t1)
    obtain ⟨A2, n2, c2, L2, e2, f2⟩ := open_ints_trod (v := y2) (by simpa using t2)
    subst e0; subst e1; subst e2
    exact ⟨a, A1, A2, n1, n2, c1, c2, L1, L2, rfl, w0, f1, f2⟩
end
end Go.Proofs.Yteodplednmeaaaa
