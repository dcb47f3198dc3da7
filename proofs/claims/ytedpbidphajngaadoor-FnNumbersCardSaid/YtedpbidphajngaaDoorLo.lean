/- A region that draws its order and whose operations leave the world alone but for draws: one walk in the order of the text serves every order, also where an operation's value is not fixed (a not-a-number's bits). A call in such a region gives a value that is named ahead. -/
import Derived.Test.YtedpbidphajngaaDoorFl
import Derived.Still
import Derived.KernelRfl
namespace Go.Proofs.YtedpbidphajngaaDoor
open Go.RowKit
set_option linter.unusedVariables false
set_option linter.unusedSimpArgs false

section
variable {P : Program} {ops : Array Oper} {md : Region.Mode} {C : World → Prop} {U : Value}

/-- what an operation may give: a value (or nothing) in a world of the class; a call: the value U, in a world of the class -/
def loUpon (P : Program) (C : World → Prop) (U : Value) (dst : Option Tmp) (a : Act) (K : Act → Prop) : Result Next → Prop
  | .ok (.value u) w' => C w' ∧ K (a.put dst u)
  | .ok .skip w' => C w' ∧ K (a.put dst undef)
  | .ok (.enter f args) w' => Calls P f args w' (fun e w'' => e = .returned U ∧ C w'') ∧ K (a.put dst U)
  | _ => False

/-- in every world of the class -/
def Oper.lo (P : Program) (o : Oper) (a : Act) (C : World → Prop) (U : Value) (K : Act → Prop) : Prop :=
  ∀ w, C w → loUpon P C U o.dst a K ((execOp a.eval o).run P w)

/-- the walk in the order of the text -/
def wpLo (P : Program) (ops : Array Oper) (C : World → Prop) (U : Value) (Q : Act → Prop) : List Oper → Act → Prop
  | [], a => Q a
  | o :: rest, a => if Region.wanted o (yielded ops a.tmps) then Oper.lo P o a C U (wpLo P ops C U Q rest) else wpLo P ops C U Q rest (a.put o.dst undef)

def lOp (P : Program) (ops : Array Oper) (C : World → Prop) (U : Value) (i : Nat) (K : Act → Prop) (a : Act) : Prop :=
  match ops[i]? with
  | none => K a
  | some o => if Region.wanted o (yielded ops a.tmps) then Oper.lo P o a C U K else K (a.put o.dst undef)

theorem loUpon_mono {dst : Option Tmp} {a : Act} {K K' : Act → Prop} (h : ∀ a, K a → K' a) {r : Result Next} (hh : loUpon P C U dst a K r) : loUpon P C U dst a K' r := by
  cases r with
  | ok n w' =>
    cases n <;> simp only [loUpon] at hh ⊢
    all_goals exact ⟨hh.1, h _ hh.2⟩
  | halt x w' => exact hh

theorem lOp_mono {i : Nat} {a : Act} {K K' : Act → Prop} (h : ∀ a, K a → K' a) (hh : lOp P ops C U i K a) : lOp P ops C U i K' a := by
  unfold lOp at *
  split
  · exact h _ (by simpa [*] using hh)
  · rename_i o ho
    simp only [ho] at hh
    split
    · rename_i hw
      simp only [hw, if_true] at hh
      exact fun w hC => loUpon_mono h (hh w hC)
    · rename_i hw; simp only [hw] at hh; exact h _ hh

/-- some state is reached -/
theorem lOp_some {w0 : World} (h0 : C w0) {i : Nat} {a : Act} {K : Act → Prop} (hh : lOp P ops C U i K a) : ∃ a', K a' := by
  unfold lOp at hh
  split at hh
  · exact ⟨_, hh⟩
  · split at hh
    · have := hh w0 h0
      generalize (execOp a.eval _).run P w0 = r at this
      cases r with
      | ok n w' =>
        cases n <;> simp only [loUpon] at this
        all_goals exact ⟨_, this.2⟩
      | halt x w' => exact this.elim
    · exact ⟨_, hh⟩

/-- two operations that are apart may change places -/
theorem lOp_swap {w0 : World} (h0 : C w0) {i j : Nat} {oi oj : Oper} (hi : ops[i]? = some oi) (hj : ops[j]? = some oj) (hap : oi.apart ops oj = true)
    (hsi : ∀ cs b, oi.op ≠ .select cs b) (hsj : ∀ cs b, oj.op ≠ .select cs b) {K : Act → Prop} {a : Act}
    (h : lOp P ops C U i (fun a' => lOp P ops C U j K a') a) : lOp P ops C U j (fun a' => lOp P ops C U i K a') a := by
  obtain ⟨a1, a2, a3⟩ := Oper.apart_spec hap
  have ej : ∀ (a : Act) u, execOp (a.put oi.dst u).eval oj = execOp a.eval oj := fun a u => execOp_put oj hsj a oi.dst u a1
  have ei : ∀ (a : Act) u, execOp (a.put oj.dst u).eval oi = execOp a.eval oi := fun a u => execOp_put oi hsi a oj.dst u a3
  have wj : ∀ (a : Act) u, Region.wanted oj (yielded ops (a.put oi.dst u).tmps) = Region.wanted oj (yielded ops a.tmps) := fun a u => wanted_put oj a oi.dst u a1
  have wi : ∀ (a : Act) u, Region.wanted oi (yielded ops (a.put oj.dst u).tmps) = Region.wanted oi (yielded ops a.tmps) := fun a u => wanted_put oi a oj.dst u a3
  have cm : ∀ (a : Act) u v, (a.put oi.dst u).put oj.dst v = (a.put oj.dst v).put oi.dst u := fun a u v => Act.put_comm a u v a2
  have Hi : ∀ (K : Act → Prop) (a : Act), lOp P ops C U i K a = (if Region.wanted oi (yielded ops a.tmps) then Oper.lo P oi a C U K else K (a.put oi.dst undef)) := by
    intro K a; unfold lOp; rw [hi]
  have Hj : ∀ (K : Act → Prop) (a : Act), lOp P ops C U j K a = (if Region.wanted oj (yielded ops a.tmps) then Oper.lo P oj a C U K else K (a.put oj.dst undef)) := by
    intro K a; unfold lOp; rw [hj]
  rw [Hi] at h
  rw [Hj]
  by_cases hwi : Region.wanted oi (yielded ops a.tmps) = true
  · rw [if_pos hwi] at h
    by_cases hwj : Region.wanted oj (yielded ops a.tmps) = true
    · rw [if_pos hwj]
      intro w2 hw2
      -- what oj gives in w2
      have h2 := h w2 hw2
      have key : ∀ u1, lOp P ops C U j K (a.put oi.dst u1) → loUpon P C U oj.dst (a.put oi.dst u1) K ((execOp a.eval oj).run P w2) := by
        intro u1 hl
        rw [Hj, wj, if_pos hwj] at hl
        have := hl w2 hw2
        rwa [ej] at this
      have inner : ∀ v, (∀ u1, lOp P ops C U j K (a.put oi.dst u1) → K ((a.put oi.dst u1).put oj.dst v)) → lOp P ops C U i K (a.put oj.dst v) := by
        intro v hv
        rw [Hi, wi, if_pos hwi]
        intro w1 hw1
        have h1 := h w1 hw1
        rw [ei]
        generalize (execOp a.eval oi).run P w1 = r1 at h1
        cases r1 with
        | ok n w' =>
          cases n <;> simp only [loUpon] at h1 ⊢
          all_goals exact ⟨h1.1, by rw [← cm]; exact hv _ h1.2⟩
        | halt x w' => exact h1
      -- the result is of one kind whatever oi gave
      generalize hr : (execOp a.eval oj).run P w2 = r2 at key
      generalize (execOp a.eval oi).run P w2 = r1 at h2
      have hu : ∃ u1, lOp P ops C U j K (a.put oi.dst u1) := by
        cases r1 with
        | ok n w' =>
          cases n <;> simp only [loUpon] at h2
          all_goals exact ⟨_, h2.2⟩
        | halt x w' => exact h2.elim
      obtain ⟨u0, hu0⟩ := hu
      have k0 := key u0 hu0
      cases r2 with
      | ok n w' =>
        cases n <;> simp only [loUpon] at k0 key ⊢
        all_goals exact ⟨k0.1, inner _ fun u1 hl => (key u1 hl).2⟩
      | halt x w' => exact k0
    · rw [if_neg hwj]
      rw [Hi, wi, if_pos hwi]
      intro w1 hw1
      have h1 := h w1 hw1
      rw [ei]
      generalize (execOp a.eval oi).run P w1 = r1 at h1
      cases r1 with
      | ok n w' =>
        cases n <;> simp only [loUpon] at h1 ⊢
        all_goals
          refine ⟨h1.1, ?_⟩
          have h2 := h1.2
          rw [Hj, wj, if_neg hwj, cm] at h2
          exact h2
      | halt x w' => exact h1
  · rw [if_neg hwi] at h
    rw [Hj, wj] at h
    by_cases hwj : Region.wanted oj (yielded ops a.tmps) = true
    · rw [if_pos hwj] at h ⊢
      intro w2 hw2
      have h2 := h w2 hw2
      rw [ej] at h2
      generalize (execOp a.eval oj).run P w2 = r2 at h2
      cases r2 with
      | ok n w' =>
        cases n <;> simp only [loUpon] at h2 ⊢
        all_goals
          refine ⟨h2.1, ?_⟩
          rw [Hi, wi, if_neg hwi, ← cm]
          exact h2.2
      | halt x w' => exact h2
    · rw [if_neg hwj] at h ⊢
      rw [Hi, wi, if_neg hwi, ← cm]
      exact h

/-- whatever order is picked from here on -/
def wpAnyL (P : Program) (md : Region.Mode) (ops : Array Oper) (C : World → Prop) (U : Value) (Q : Act → Prop) : Nat → Array Bool → Act → Prop
  | 0, listed, a => Region.ready md ops listed = [] ∧ Q a
  | fuel + 1, listed, a =>
    (Region.ready md ops listed = [] → Q a) ∧
    ∀ i ∈ Region.ready md ops listed, lOp P ops C U i (wpAnyL P md ops C U Q fuel (listed.setIfInBounds i true)) a

theorem wp_of_lo {o : Oper} {a : Act} {K : Act → Prop} {K' : Act → World → Prop} {Q' : Exit → Act → World → Prop} {w : World} (hw : C w) (h : ∀ a w', C w' → K a → K' a w') (hh : Oper.lo P o a C U K) : o.wp P a w K' Q' := by
  have h3 := hh w hw
  unfold Oper.wp
  generalize (execOp a.eval o).run P w = r at *
  cases r with
  | ok n w' =>
    cases n <;> simp only [loUpon] at h3 <;> simp only [Oper.upon]
    case value u => exact h _ _ h3.1 h3.2
    case skip => exact h _ _ h3.1 h3.2
    case enter f args => exact h3.1.mono fun e w'' ⟨he, hC⟩ => by subst he; exact h _ _ hC h3.2
  | halt x w' => exact h3.elim

theorem wpOp_of_lOp {i : Nat} {a : Act} {K : Act → Prop} {K' : Act → World → Prop} {Q' : Exit → Act → World → Prop} {w : World} (hC : C w) (h : ∀ a w', C w' → K a → K' a w') (hh : lOp P ops C U i K a) : wpOp P ops Q' i K' a w := by
  unfold lOp at hh
  unfold wpOp
  split
  · rename_i ho; simp only [ho] at hh; exact h _ _ hC hh
  · rename_i o ho
    simp only [ho] at hh
    split
    · rename_i hw; simp only [hw, if_true] at hh; exact .inl (wp_of_lo hC h hh)
    · rename_i hw; simp only [hw] at hh; exact h _ _ hC hh

theorem wpAny_of_lo {Q : Act → Prop} {Q' : Exit → Act → World → Prop} (hQ : ∀ a w, C w → Q a → Q' .normal a w) : ∀ (fuel : Nat) (listed : Array Bool) (a : Act) (w : World), C w →
    wpAnyL P md ops C U Q fuel listed a → wpAny P md ops Q' fuel listed a w
  | 0, _, _, _, hw, h => ⟨h.1, hQ _ _ hw h.2⟩
  | fuel + 1, _, _, _, hw, h => ⟨fun h0 => hQ _ _ hw (h.1 h0), fun i hi => wpOp_of_lOp hw (fun a' w' hw' => wpAny_of_lo hQ fuel _ a' w' hw') (h.2 i hi)⟩

/-- an operation that may come up now may be taken first -/
theorem wpAnyL_first {w0 : World} (h0 : C w0) {Q : Act → Prop} {i : Nat} {oi : Oper} (hi : ops[i]? = some oi) (hsel : ∀ (j : Nat) (o : Oper) cs b, ops[j]? = some o → o.op ≠ .select cs b) :
    ∀ (fuel : Nat) (listed : Array Bool) (a : Act),
      (∀ j oj, ops[j]? = some oj → j ≠ i → listed.getD j true = false → (∀ e ∈ oj.after, Region.binds md e = true → e.on ≠ i) → oi.apart ops oj = true) →
      i ∈ Region.ready md ops listed →
      lOp P ops C U i (wpAnyL P md ops C U Q fuel (listed.setIfInBounds i true)) a → wpAnyL P md ops C U Q (fuel + 1) listed a := by
  intro fuel
  induction fuel with
  | zero =>
    intro listed a _ hr H
    refine ⟨fun h => (by rw [h] at hr; cases hr), fun j hj => ?_⟩
    by_cases hji : j = i
    · subst hji; exact H
    · have h1 := ready_mono hj hji
      obtain ⟨a', ha'⟩ := lOp_some h0 H
      rw [ha'.1] at h1
      cases h1
  | succ fuel ih =>
    intro listed a hfree hr H
    refine ⟨fun h => (by rw [h] at hr; cases hr), fun j hj => ?_⟩
    by_cases hji : j = i
    · subst hji; exact H
    · obtain ⟨hjun, oj, hoj, hall⟩ := mem_ready.1 hj
      have hnot : ∀ e ∈ oj.after, Region.binds md e = true → e.on ≠ i := fun e he hb heq => by
        have h1 := hall e he hb
        have h2 := (mem_ready.1 hr).1
        rw [heq] at h1
        rcases Nat.lt_or_ge i listed.size with h' | h'
        · simp [h'] at h2 h1; rw [h2] at h1; cases h1
        · simp [Array.getElem?_eq_none h'] at h1
      have hap := hfree j oj hoj hji hjun hnot
      have H1 : lOp P ops C U i (fun a' => lOp P ops C U j (wpAnyL P md ops C U Q fuel ((listed.setIfInBounds i true).setIfInBounds j true)) a') a :=
        lOp_mono (fun a' h => h.2 j (ready_mono hj hji)) H
      have H2 := lOp_swap h0 hi hoj hap (fun cs b => hsel i oi cs b hi) (fun cs b => hsel j oj cs b hoj) H1
      refine lOp_mono (fun a' h => ?_) H2
      refine ih (listed.setIfInBounds j true) a' ?_ (ready_mono hr (Ne.symm hji)) ?_
      · intro k ok hk hki hun hno
        refine hfree k ok hk hki ?_ hno
        by_cases hjk : j = k
        · subst hjk; exact hjun
        · rw [getD_set_ne true hjk] at hun; exact hun
      · rw [Array.setIfInBounds_comm _ _ hji]
        exact h

theorem wpAnyL_lex {w0 : World} (h0 : C w0) {Q : Act → Prop} (hs : Region.noSelect ops = true) : ∀ (l : List Oper) (k : Nat) (listed : Array Bool) (a : Act), (∀ j, l[j]? = ops[k + j]?) →
    Region.lexFrom md ops l.length k listed = true → wpLo P ops C U Q l a → wpAnyL P md ops C U Q l.length listed a
  | [], _, _, _, _, hB, h => ⟨by simpa [Region.lexFrom] using hB, h⟩
  | o :: l, k, listed, a, hl, hB, h => by
    have hk : ops[k]? = some o := by simpa using (hl 0).symm
    simp only [List.length_cons, Region.lexFrom, Bool.and_eq_true] at hB
    obtain ⟨⟨hr, hf⟩, hB'⟩ := hB
    refine wpAnyL_first h0 hk (Region.noSelect_spec hs) l.length listed a (Region.free_spec hk hf) (by simpa using hr) ?_
    have hst : lOp P ops C U k (wpLo P ops C U Q l) a := by unfold lOp; simp only [hk]; exact h
    exact lOp_mono (fun a' h' => wpAnyL_lex h0 hs l (k + 1) _ a' (fun j => by have := hl (j + 1); simpa [Nat.add_assoc, Nat.add_comm 1 j] using this) hB' h') hst

/-- the class: some draws on -/
def Cls (w : World) : World → Prop := fun w' => ∃ n, w' = w.drewN n
theorem cls_drewN (w : World) (n : Nat) : Cls w (w.drewN n) := ⟨n, rfl⟩

/-- ONE WALK SERVES EVERY ORDER. -/
theorem wp_region_lo {id : Nat} {Q : Exit → Act → World → Prop} {a : Act} {w : World} (q : Nat) {l : List Oper} (U : Value) (hm : P.follows .mixedOrders = true) (hB : Region.lexB .any l.toArray = true)
    (h : wpLo P l.toArray (Cls w) U (fun a' => ∀ n, Q .normal a' (w.drewN n)) l a) : (Code.region id l.toArray true).wp P Q a (w.drewN q) := by
  simp only [Region.lexB, Bool.and_eq_true] at hB
  refine wp_region_any hm (wpAny_of_lo (C := Cls w) (U := U) (Q := fun a' => ∀ n, Q .normal a' (w.drewN n)) (fun a' w' ⟨n, hn⟩ h => by subst hn; exact h n) _ _ _ _ ⟨q + 1, rfl⟩ ?_)
  have := wpAnyL_lex (C := Cls w) (w0 := w) ⟨0, rfl⟩ (md := .any) hB.1 l 0 (Array.replicate l.toArray.size false) a (by simp) (by simpa using hB.2) h
  simpa using this
end

/-! ### steps -/
section
variable {P : Program} {ops : Array Oper} {U : Value} {Q : Act → Prop} {a : Act} {o : Oper} {rest : List Oper} {w : World}
theorem wpLo_nil (h : Q a) : wpLo P ops (Cls w) U Q [] a := h
/-- an operation without a guard -/
theorem wpLo_plain (hg : o.guard = none) (h : ∀ K : Act → Prop, (∀ a, wpLo P ops (Cls w) U Q rest a → K a) → ∀ n, loUpon P (Cls w) U o.dst a K ((execOp a.eval o).run P (w.drewN n))) :
    wpLo P ops (Cls w) U Q (o :: rest) a := by
  unfold wpLo
  rw [if_pos (by simp [Region.wanted, hg])]
  rintro w' ⟨n, rfl⟩
  exact h _ (fun _ h => h) n
/-- an operation whose guard says yes -/
theorem wpLo_want (hw : Region.wanted o (yielded ops a.tmps) = true) (h : ∀ K : Act → Prop, (∀ a, wpLo P ops (Cls w) U Q rest a → K a) → ∀ n, loUpon P (Cls w) U o.dst a K ((execOp a.eval o).run P (w.drewN n))) :
    wpLo P ops (Cls w) U Q (o :: rest) a := by
  unfold wpLo
  rw [if_pos hw]
  rintro w' ⟨n, rfl⟩
  exact h _ (fun _ h => h) n
/-- an operation whose guard says no -/
theorem wpLo_skip (hw : Region.wanted o (yielded ops a.tmps) = false) (h : wpLo P ops (Cls w) U Q rest (a.put o.dst undef)) : wpLo P ops (Cls w) U Q (o :: rest) a := by
  unfold wpLo
  rw [if_neg (by simp [hw])]
  exact h
theorem lo_value {n : Nat} {dst : Option Tmp} {K : Act → Prop} {v : Value} : loUpon P (Cls w) U dst a K (.ok (.value v) (w.drewN n)) = K (a.put dst v) := by
  simp only [loUpon, eq_iff_iff, and_iff_right_iff_imp]
  exact fun _ => ⟨n, rfl⟩
theorem lo_enter {n : Nat} {dst : Option Tmp} {K : Act → Prop} {f : FuncId} {args : Array Value} : loUpon P (Cls w) U dst a K (.ok (.enter f args) (w.drewN n)) =
    (Calls P f args (w.drewN n) (fun e w'' => e = .returned U ∧ Cls w w'') ∧ K (a.put dst U)) := rfl
/-- a contract in the form that a call in such a region asks -/
theorem lo_call {n : Nat} {f : FuncId} {args : Array Value} {w0 : World} (h : Calls P f args (w0.drewN n) (fun e w'' => ∃ m, e = .returned U ∧ w'' = (w0.drewN n).drewN m)) :
    Calls P f args (w0.drewN n) (fun e w'' => e = .returned U ∧ Cls w0 w'') :=
  h.mono fun _ _ ⟨m, he, hw⟩ => ⟨he, n + m, by rw [hw, World.drewN_drewN]⟩
theorem lo_call_same {n : Nat} {f : FuncId} {args : Array Value} {w0 : World} (h : Calls P f args (w0.drewN n) (fun e w'' => e = .returned U ∧ w0.drewN n = w'')) :
    Calls P f args (w0.drewN n) (fun e w'' => e = .returned U ∧ Cls w0 w'') :=
  h.mono fun _ _ ⟨he, hw⟩ => ⟨he, n, hw.symm⟩

/-- an operation on floats -/
theorem wpLo_farith {d : Tmp} {T t ty : TypeId} {pos : String} {after : Array Edge} {op : BinOp} {x y : Operand} {k : FloatKind} {bx bz : Nat}
    (hop : arithOp op = true) (hx : a.eval x = .float k bx) (hy : a.eval y = .float k bz)
    (h : ∀ r, Hid (av k r = fop op k (av k bx) (av k bz)) → wpLo P ops (Cls w) U Q rest (a.put (some d) (.float k r))) :
    wpLo P ops (Cls w) U Q (⟨some d, .binOp op t x y ty, T, pos, after, none⟩ :: rest) a := by
  refine wpLo_plain rfl fun K hK n => ?_
  obtain ⟨r, m, hr, he⟩ := run_farith (P := P) (w.drewN n) op hop t k bx bz
  have hg : (eqGuard op t x y (.float k bx) (.float k bz)) = pure () := by cases op <;> rfl
  unfold execOp
  simp only [hx, hy, hg, Sem.run_bind, hr, Result.andThen_ok, Sem.run_pure]
  exact ⟨⟨n + m, World.drewN_drewN w n m⟩, hK _ (h r he)⟩
/-- a conversion between the two kinds of floats -/
theorem wpLo_fconv {d : Tmp} {T src dst : TypeId} {pos : String} {after : Array Edge} {x : Operand} {s k : FloatKind} {b : Nat}
    (hne : s ≠ k) (hs : P.underlying src = some (.float s)) (hd : P.underlying dst = some (.float k)) (hx : a.eval x = .float s b) (hf : Fits s k (av s b))
    (h : ∀ r, Hid (av k r = fconv s k (av s b)) → wpLo P ops (Cls w) U Q rest (a.put (some d) (.float k r))) :
    wpLo P ops (Cls w) U Q (⟨some d, .convert src dst x, T, pos, after, none⟩ :: rest) a := by
  refine wpLo_plain rfl fun K hK n => ?_
  obtain ⟨r, m, hr, he⟩ := run_fconv (P := P) (w.drewN n) src dst s k b hne hs hd hf
  unfold execOp
  simp only [hx, Sem.run_bind, hr, Result.andThen_ok, Sem.run_pure]
  exact ⟨⟨n + m, World.drewN_drewN w n m⟩, hK _ (h r he)⟩
end
end Go.Proofs.YtedpbidphajngaaDoor
