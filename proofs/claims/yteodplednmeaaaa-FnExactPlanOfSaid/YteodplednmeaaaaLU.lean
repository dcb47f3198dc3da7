/- Plans that are plans: what the program and the model compute. -/
import Derived.Test.YteodplednmeaaaaLT
namespace Go.Proofs.Yteodplednmeaaaa
open Go.RowKit
set_option linter.unusedVariables false
set_option linter.unusedSimpArgs false
attribute [local go_sem] lo_value lo_enter run_store_float run_neg LC.lc_value LC.lc_enter

/-- what a plan leaves, where it is all numbers that are finite -/
def leftL (N B : List Nat) (m : Nat) (Y : List Nat) (n : Nat) : List Nat := (List.range n).map fun i => (leftA N B m Y i).getD 0
theorem made_eq {X : Nat → Option Nat} {w : World} {base k : Nat} {v : Value} {L : List Nat} (h : Made X w base v k L) (hf : allA (finA .f32) L = true) : L = (List.range k).map fun i => (X i).getD 0 := by
  have e : L = (L.map (av .f32)).map fun o => o.getD 0 := by
    rw [List.map_map]
    conv => lhs; rw [← List.map_id L]
    apply List.map_congr_left
    intro x hx
    unfold allA at hf
    rw [List.all_eq_true] at hf
    have h1 := hf x hx
    obtain ⟨s, m, p, hd⟩ := fin_number h1
    have : av .f32 x = some x := av_of_not (by rw [hd]; rfl)
    show id x = (av .f32 x).getD 0
    rw [this]; rfl
  rw [e, h.val, List.map_map]
  rfl
theorem made_left {N B M : List Nat} {n2 n3 : Nat} {w : World} {base : Nat} {v : Value} {L : List Nat} (h : Made (leftA N B n3 M) w base v n2 L) (hf : allA (finA .f32) L = true) : L = leftL N B n3 M n2 := made_eq h hf
def planV (v : Int) (n1 n2 n3 : Nat) (N B G : List Nat) (m : Nat) (M : List Nat) (near : Nat) : Bool := leftV v n1 n2 n3 N B G m M && (leastA (av .f32 near) && (leastL near M && leastL near (leftL N B n3 M n2)))
theorem leftV_eq {v : Int} {n1 n2 n3 : Nat} {N B G : List Nat} {m : Nat} {M : List Nat} {w : World} {base : Nat} {u : Value} {L : List Nat} (hf : fitV v n1 n2 n3 N B G m M = true) (h : Made (leftA N B n3 M) w base u n2 L) : leftV v n1 n2 n3 N B G m M = allA (finA .f32) L := by
  rw [leftV, hf, h.all]; rfl
/-- what LeftOf gives -/
inductive LeftRes (v : Int) (n1 n2 n3 : Nat) (N B G : List Nat) (m : Nat) (M : List Nat) (w' : World) (base : Nat) : Value → Prop
  | no (h : leftV v n1 n2 n3 N B G m M = false) : LeftRes v n1 n2 n3 N B G m M w' base (.slice none 0 0)
  | yes (g cap : Nat) (h : leftV v n1 n2 n3 N B G m M = true) (hm : Made (leftA N B n3 M) w' base (.slice (some ⟨g, 0, none⟩) n2 cap) n2 (leftL N B n3 M n2)) : LeftRes v n1 n2 n3 N B G m M w' base (.slice (some ⟨g, 0, none⟩) n2 cap)
theorem leftRes_of {v : Int} {n1 n2 n3 : Nat} {N B G : List Nat} {m : Nat} {M : List Nat} {w' : World} {base : Nat} {L : List Nat} {g cap : Nat} {e : Ending} (hf : fitV v n1 n2 n3 N B G m M = true)
    (hm : Made (leftA N B n3 M) w' base (.slice (some ⟨g, 0, none⟩) n2 cap) n2 L) (he : e = .returned (.tuple #[bif allA (finA .f32) L then .slice (some ⟨g, 0, none⟩) n2 cap else .slice none 0 0, .bool (allA (finA .f32) L)])) :
    ∃ u, e = .returned (.tuple #[u, .bool (leftV v n1 n2 n3 N B G m M)]) ∧ LeftRes v n1 n2 n3 N B G m M w' base u := by
  have hv := leftV_eq hf hm
  cases ha : allA (finA .f32) L
  · exact ⟨_, by rw [he, hv, ha]; rfl, .no (by rw [hv, ha])⟩
  · exact ⟨_, by rw [he, hv, ha]; rfl, .yes g cap (by rw [hv, ha]) (by rw [← made_left hm ha]; exact hm)⟩
set_option maxRecDepth 100000 in
theorem specLeftOf_any (v : Int) (A1 A2 A3 : Option Addr) (n1 n2 n3 c1 c2 c3 : Nat) (N B G : List Nat) (X : Option Addr) (m d : Nat) (M : List Nat) (w : World) (h1 : FS w A1 n1 N) (h2 : FS w A2 n2 B) (h3 : FS w A3 n3 G) (b1 : n1 ≤ 1048576) (b2 : n2 ≤ 1048576) (b3 : n3 ≤ 1048576) (hx : FS w X m M) (bm : m ≤ 1048576) (hcap : n1 = c1 := by rfl) :
    Calls Try.prog 50 #[.agg #[.int .i64 v, .slice A1 n1 c1, .slice A2 n2 c2, .slice A3 n3 c3], .slice X m d] w fun e w' => ∃ u, e = .returned (.tuple #[u, .bool (leftV v n1 n2 n3 N B G m M)]) ∧ LeftRes v n1 n2 n3 N B G m M w' w.heap.size u ∧ Below w.heap.size w w' := by
  cases hf : fitV v n1 n2 n3 N B G m M
  · have H : leftV v n1 n2 n3 N B G m M = false := by rw [leftV, hf]; rfl
    have HH := Lib.hid H
    clear H hcap
    have HB : Below w.heap.size w (w.alloc (.cells #[.int .i64 v, .slice A1 n1 c1, .slice A2 n2 c2, .slice A3 n3 c3] 36)) := (Below.refl _ _).alloc (Nat.le_refl _) _
    have HR := Row.new w 36 #[.int .i64 v, .slice A1 n1 c1, .slice A2 n2 c2, .slice A3 n3 c3]
    go_enter Try.func50, Try.ntmps50
    go_wp2_with fail
    refine (l02Fit_any w.heap.size v A1 A2 A3 n1 n2 n3 c1 c2 c3 N B G X m d M _ HR (h1.below HB) (h2.below HB) (h3.below HB) b1 b2 b3 (hx.below HB) bm).mono ?_
    rintro e wx ⟨q1, rfl, rfl⟩
    rw [hf]
    go_wp2_with fail
    go_ret2
    exact ⟨_, by rw [HH.out]; rfl, .no HH.out, below_drewN HB _⟩
  · refine (specLeftOf_fit v A1 A2 A3 n1 n2 n3 c1 c2 c3 N B G X m d M w h1 h2 h3 b1 b2 b3 hx bm hf hcap).mono ?_
    rintro e w' ⟨L, g, cap, hm, he, hb⟩
    obtain ⟨u, h1, h2⟩ := leftRes_of hf hm he
    exact ⟨u, h1, h2, hb⟩
set_option maxRecDepth 100000 in
theorem implLeftOf_any (v : Int) (A1 A2 A3 : Option Addr) (n1 n2 n3 c1 c2 c3 : Nat) (N B G : List Nat) (X : Option Addr) (m d : Nat) (M : List Nat) (w : World) (h1 : FS w A1 n1 N) (h2 : FS w A2 n2 B) (h3 : FS w A3 n3 G) (b1 : n1 ≤ 1048576) (b2 : n2 ≤ 1048576) (b3 : n3 ≤ 1048576) (hx : FS w X m M) (bm : m ≤ 1048576) (hcap : n1 = c1 := by rfl) :
    Calls Try.prog 51 #[.agg #[.int .i64 v, .slice A1 n1 c1, .slice A2 n2 c2, .slice A3 n3 c3], .slice X m d] w fun e w' => ∃ u, e = .returned (.tuple #[u, .bool (leftV v n1 n2 n3 N B G m M)]) ∧ LeftRes v n1 n2 n3 N B G m M w' w.heap.size u ∧ Below w.heap.size w w' := by
  cases hf : fitV v n1 n2 n3 N B G m M
  · have H : leftV v n1 n2 n3 N B G m M = false := by rw [leftV, hf]; rfl
    have HH := Lib.hid H
    clear H hcap
    have HB : Below w.heap.size w (w.alloc (.cells #[.int .i64 v, .slice A1 n1 c1, .slice A2 n2 c2, .slice A3 n3 c3] 36)) := (Below.refl _ _).alloc (Nat.le_refl _) _
    have HR := Row.new w 36 #[.int .i64 v, .slice A1 n1 c1, .slice A2 n2 c2, .slice A3 n3 c3]
    cases hV : validV v n1 n2 n3 N B G
    · go_enter Try.func51, Try.ntmps51
      go_wp2_with fail
      refine (implValidRows_any v A1 A2 A3 n1 n2 n3 c1 c2 c3 N B G _ (h1.below HB) (h2.below HB) (h3.below HB) b1 b2 b3).mono ?_
      rintro e w1 ⟨rfl, hb⟩
      rw [hV]
      go_wp2_with fail
      go_ret2
      exact ⟨_, by rw [HH.out]; rfl, .no HH.out, HB.trans (hb.mono HB.size)⟩
    · have hl : asLong v m M = false := by rw [fitV, hV] at hf; exact hf
      have kx := hx.below HB
      go_enter Try.func51, Try.ntmps51
      go_wp2_with fail
      refine (implValidRows_any v A1 A2 A3 n1 n2 n3 c1 c2 c3 N B G _ (h1.below HB) (h2.below HB) (h3.below HB) b1 b2 b3).mono ?_
      rintro e w1 ⟨rfl, hb⟩
      rw [hV]
      replace HR := HR.below hb HR.lt
      replace HB := HB.trans (hb.mono HB.size)
      replace kx := kx.below hb
      clear hb
      have q0 : w1.cell? ⟨w.heap.size, 0, none⟩ = some (.int .i64 v) := HR.cell 0
      have q1 : w1.cell? ⟨w.heap.size, 1, none⟩ = some (.slice A1 n1 c1) := HR.cell 1
      have q2 : w1.cell? ⟨w.heap.size, 2, none⟩ = some (.slice A2 n2 c2) := HR.cell 2
      have q3 : w1.cell? ⟨w.heap.size, 3, none⟩ = some (.slice A3 n3 c3) := HR.cell 3
      go_wp2_with fail
      refine (isX_any v A1 A2 A3 n1 n2 n3 c1 c2 c3 X m d M _ kx bm).mono ?_
      rintro e w2 ⟨rfl, hb⟩
      rw [hl]
      go_wp2_with fail
      go_ret2
      exact ⟨_, by rw [HH.out]; rfl, .no HH.out, HB.trans (hb.mono HB.size)⟩
  · refine (implLeftOf_fit v A1 A2 A3 n1 n2 n3 c1 c2 c3 N B G X m d M w h1 h2 h3 b1 b2 b3 hx bm hf hcap).mono ?_
    rintro e w' ⟨L, g, cap, hm, he, hb⟩
    obtain ⟨u, h1, h2⟩ := leftRes_of hf hm he
    exact ⟨u, h1, h2, hb⟩
end Go.Proofs.Yteodplednmeaaaa
