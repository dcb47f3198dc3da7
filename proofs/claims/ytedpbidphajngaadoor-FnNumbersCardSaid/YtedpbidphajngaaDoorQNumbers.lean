/- The walk of the law FnNumbers. -/
import Derived.Test.YtedpbidphajngaaDoorNV
import Derived.Test.YtedpbidphajngaaDoorSD
import Derived.Test.YtedpbidphajngaaDoorO
import Derived.Deep.LoopGhost
namespace Go.Proofs.YtedpbidphajngaaDoor
open Go.RowKit
set_option linter.unusedVariables false
set_option linter.unusedSimpArgs false
attribute [local go_sem] lo_value lo_enter

theorem bytes_small {L : List Int} (h : ∀ x ∈ L, (Lit.int .u8 x).wf = true) : ∀ x ∈ L, 0 ≤ x ∧ x ≤ 255 := by
  intro x hx
  have hwx := h x hx
  simp only [Lit.wf, Bool.and_eq_true, decide_eq_true_eq] at hwx
  have e1 : IntKind.u8.min = 0 := by decide
  have e2 : IntKind.u8.max = 255 := by decide
  rw [e1, e2] at hwx
  exact hwx
theorem b10At_any {A : Option Addr} {n c : Nat} {L : List Int} {w : World} (h : SL (Value.int .u8) 0 w A n L) (hw : ∀ x ∈ L, 0 ≤ x ∧ x ≤ 255) (hn : n ≤ 1048576) :
    Calls Tryd.prog 38 #[.slice A n c, .int .i64 0, .int .i64 12] w fun e w' => (∃ v : Nat, v < 12 ∧ e = .returned (.int .i64 v)) ∧ w = w' := by
  by_cases h0 : 0 < n
  · obtain ⟨b, off, x, rfl, hb, hc, hx, _⟩ := h.at_ h0
    obtain ⟨r1, r2⟩ := hw x (List.mem_of_getElem? hx)
    have hlt : (0 : Int) < (n : Int) := by omega
    rw [Nat.add_zero] at hc
    clear h hw hx
    go_enter Tryd.func38, Tryd.ntmps38
    go_wp2_with fail
    go_ret
    refine ⟨⟨(x % 12).toNat, by omega, ?_⟩, rfl⟩
    exact ret_int (by omega)
  · obtain rfl : n = 0 := by omega
    clear h hw
    go_enter Tryd.func38, Tryd.ntmps38
    go_wp2_with fail
    go_ret
    exact ⟨⟨11, by omega, rfl⟩, rfl⟩
theorem b10Long_yes {A B : Option Addr} {n c m d : Nat} (h : 1048576 < n ∨ 1048576 < m) (w : World) : Calls Tryd.prog 32 #[.slice A n c, .slice B m d] w fun e w' => e = .returned (.bool true) ∧ w = w' := by
  by_cases h1 : n ≤ 1048576
  · have e1 : decide ((1048576 : Int) < (n : Int)) = false := decide_eq_false (by omega)
    have e2 : decide ((1048576 : Int) < (m : Int)) = true := decide_eq_true (by omega)
    go_enter Tryd.func32, Tryd.ntmps32
    go_wp2_with fail
    go_ret
    exact ⟨rfl, rfl⟩
  · have e1 : decide ((1048576 : Int) < (n : Int)) = true := decide_eq_true (by omega)
    go_enter Tryd.func32, Tryd.ntmps32
    go_wp2_with fail
    go_ret
    exact ⟨rfl, rfl⟩
theorem b10Long_no {A B : Option Addr} {n c m d : Nat} (h1 : n ≤ 1048576) (h2 : m ≤ 1048576) (w : World) : Calls Tryd.prog 32 #[.slice A n c, .slice B m d] w fun e w' => e = .returned (.bool false) ∧ w = w' := by
  have e1 : decide ((1048576 : Int) < (n : Int)) = false := decide_eq_false (by omega)
  have e2 : decide ((1048576 : Int) < (m : Int)) = false := decide_eq_false (by omega)
  go_enter Tryd.func32, Tryd.ntmps32
  go_wp2_with fail
  go_ret
  exact ⟨rfl, rfl⟩
theorem upon_fconv {P : Program} {o : Oper} {a : Act} {K : Act → World → Prop} {Q : Exit → Act → World → Prop} {src dst : TypeId} {s k : FloatKind} {b : Nat} {w : World} (hne : s ≠ k) (hs : P.underlying src = some (.float s)) (hd : P.underlying dst = some (.float k)) (hf : Fits s k (av s b))
    (h : ∀ r n, Hid (av k r = fconv s k (av s b)) → Oper.upon P o a K Q (Result.ok (Next.value (.float k r)) (w.drewN n))) :
    Oper.upon P o a K Q ((Sem.run P (convert src dst (.float s b)) w).andThen fun a w' => Result.ok (Next.value a) w') := by
  obtain ⟨r, n, hr, he⟩ := run_fconv (P := P) w src dst s k b hne hs hd hf
  rw [hr]
  exact h r n he
theorem below_grow0 {w w' : World} {B : Nat} (h : Below B w w') (k : Nat) : Below B w (w'.drewN k) := below_drewN h k
set_option maxHeartbeats 4000000 in
set_option maxRecDepth 100000 in
theorem lawFnNumbers (w : World) (A : Option Addr) (n c : Nat) (L : List Int) (hA : BArg w A n L) (B : Option Addr) (m d : Nat) (K : List Int) (hB : BArg w B m K) (hmax : MaxW w) :
    Calls Tryd.prog 9 #[.slice A n c, .slice B m d] w fun e w' => e = .returned (.bool true) ∧ Below w.heap.size w w' := by
  obtain ⟨kA, _, wA⟩ := hA
  obtain ⟨kB, _, wB⟩ := hB
  replace wA := bytes_small wA
  replace wB := bytes_small wB
  by_cases hlong : n ≤ 1048576 ∧ m ≤ 1048576
  rotate_left
  · go_enter Tryd.func9, Tryd.ntmps9
    go_wp2_with fail
    refine (b10Long_yes (by omega) _).mono ?_
    rintro e w' ⟨rfl, rfl⟩
    go_wp2_with fail
    go_ret
    exact ⟨rfl, Below.refl _ _⟩
  obtain ⟨hn, hm⟩ := hlong
  go_enter Tryd.func9, Tryd.ntmps9
  go_wp2_with fail
  refine (b10Long_no hn hm _).mono ?_
  rintro e w' ⟨rfl, rfl⟩
  go_wp2_with fail
  refine (b10Number_any A n c L _ kA wA hn).mono ?_
  rintro e w1 ⟨x, rfl, hx, hb⟩
  have HB := hb
  clear hb
  go_wp2_with fail
  refine (b10Number_any B m d K _ (kB.below HB) wB hm).mono ?_
  rintro e w2 ⟨y, rfl, hy, hb⟩
  replace HB := HB.trans (hb.mono HB.size)
  clear hb
  go_wp2_with fail
  refine (implBitsOf_any x hx _).mono ?_
  rintro e w' ⟨rfl, rfl⟩
  have hbl := bitsN_lt hx
  rw [bitsA_nat]
  go_wp2_with fail
  refine (implFromBits_in _ (by omega) (by omega) _).mono ?_
  rintro e w' ⟨rfl, rfl⟩
  go_wp2_with fail
  refine (implFlush_any x hx _).mono ?_
  rintro e w3 ⟨z, nz, rfl, hz, rfl⟩
  replace HB := below_drewN HB nz
  go_wp2_with fail
  refine (b10At_any (kA.below HB) wA hn).mono ?_
  rintro e w' ⟨⟨N, hN, rfl⟩, rfl⟩
  go_wp2_with fail
  refine (b10Numbers_any N (by omega) B m d K _ (kB.below HB) wB hm).mono ?_
  rintro e w4 ⟨u, X, rfl, hXl, hX, own5, hb⟩
  replace HB := HB.trans (hb.mono HB.size)
  clear hb
  -- what the comparisons will give
  have hs1 := fun wq => same_av (bitsN (av .f32 x)) x (bnd_of hbl) (bnd_of hx) wq
  rw [back_same _ x rfl] at hs1
  have hzb : Bnd (av .f32 z) := by rw [hz.out]; exact bnd_of (flush_lt x hx)
  have hs2 := fun wq => sub_av z hzb wq
  rw [hz.out, flush_sub x hx] at hs2
  have hs3 := fun wq => implIsSubnormal_any x hx wq
  have hs4 := fun wq => same_av x z (bnd_of hx) hzb wq
  rw [hz.out, flush_same x hx] at hs4
  clear hz hzb
  generalize subB x = sb at *
  have hbb : (sb == !sb) = false := by cases sb <;> rfl
  generalize bitsN (av .f32 x) = bk at *
  obtain ⟨A5, c5, rfl, hsl⟩ := own_sl 0 own5
  clear own5
  have HXL := Lib.hid hXl
  have HN := Lib.hid hN
  clear hXl
  go_wp2_with fail
  go_loopw [11, 41] (fun sv iv wr => ∃ k q r : Nat, k ≤ N ∧ iv = .int .i64 k ∧ sv = .float .f32 r ∧ wr = w4.drewN q ∧ Hid (av .f32 r = sumA (some 0) (X.take k))) (fun _ iv _ => N - (intOf iv).toNat)
  case atStart => exact ⟨0, 0, 0, Nat.zero_le _, rfl, rfl, rfl, by show _ = _; rfl⟩
  case round =>
    obtain ⟨k, q, r, hk, rfl, rfl, rfl, hrel⟩ := hrel
    by_cases hlt : k < N
    · obtain ⟨b, off, xx, rfl, hb, hc, hxx, hss⟩ := hsl.at_ hlt
      have HS := Lib.hid hss
      have hlt2 : (k : Int) < (N : Int) := by omega
      clear hxx hss hsl
      go_wp2_with ((with_reducible apply wpList_farith); rfl; rfl; rfl; intro r n hr)
      go_roundw
      case rel => exact ⟨k + 1, _, _, by omega, by go_num, rfl, rfl, by show _ = _; rw [HS.out, sumA_snoc]; simp only [Hid] at *; simp [*]⟩
      case measure => simp [intOf]; omega
    · obtain rfl : k = N := by omega
      rw [show X.take k = X by rw [← HXL.out, List.take_length]] at hrel
      have hrb : Bnd (av .f32 r) := by rw [hrel.out]; exact sum_bnd X _ (fun c hc => by injection hc with hc; omega)
      go_wp2_with fail
      refine (implSum_in A5 k c5 X _ (hsl.drewN q) (by omega)).mono ?_
      rintro e w5 ⟨r2, n2, rfl, hr2, rfl⟩
      have hrb2 : Bnd (av .f32 r2) := by rw [hr2.out, ← hrel.out]; exact hrb
      have hs5 := fun wq => same_av r2 r hrb2 hrb wq
      rw [hr2.out, ← hrel.out, show sameA (av .f32 r) (av .f32 r) = true by simp [sameA]] at hs5
      clear hr2 hrel hrb hrb2
      have hX6 : X.length ≤ 256 := by rw [HXL.out]; omega
      have htx := fun wq h => implNumbersText_any A5 k c5 X wq h (by omega) hX
      rw [show numTextV X = true from decide_eq_true hX6, show numTextS X = ⟨(textL (hexes X)).toArray⟩ by rw [numTextS, show numTextV X = true from decide_eq_true hX6]; rfl] at htx
      have hrd := fun wq h => implReadNumbers_any ⟨(textL (hexes X)).toArray⟩ (text_size X hX6) wq h
      rw [show (⟨(textL (hexes X)).toArray⟩ : ByteArray).data.toList = textL (hexes X) from rfl, numsV_text X hX6 hX, numsL_text X hX6 hX, show (X.map fun x => bitsN (av .f32 x)).length = k by rw [List.length_map]; exact HXL.out] at hrd
      generalize (⟨(textL (hexes X)).toArray⟩ : ByteArray) = txt at *
      go_wp2_with fail
      refine (htx _ (hsl.drewN _)).mono ?_
      rintro e w6 ⟨rfl, hb6⟩
      replace HB := (below_drewN HB (q + n2)).trans (hb6.mono HB.size)
      have hsl6 := (hsl.drewN _).below hb6
      clear hsl hb6 htx
      go_wp2_with fail
      refine (hrd _ (hmax.below HB)).mono ?_
      rintro e w7 ⟨u7, rfl, own7, hb7⟩
      replace HB := HB.trans (hb7.mono HB.size)
      have hsl7 := hsl6.below hb7
      clear hsl6 hb7 hrd
      obtain ⟨A7, c7, rfl, hrl⟩ := own_sl 0 own7
      clear own7
      go_wp2_with fail
      refine (hs1 _).mono ?_
      rintro e w' ⟨rfl, rfl⟩
      go_wp2_with fail
      refine (hs2 _).mono ?_
      rintro e w' ⟨rfl, rfl⟩
      go_wp2_with fail
      refine (hs3 _).mono ?_
      rintro e w' ⟨rfl, rfl⟩
      go_wp2_with fail
      refine (hs4 _).mono ?_
      rintro e w' ⟨rfl, rfl⟩
      go_wp2_with fail
      refine (hs5 _).mono ?_
      rintro e w' ⟨rfl, rfl⟩
      clear hs1 hs2 hs3 hs4 hs5
      go_wp2_with fail
      go_loopw [113] (fun iv wr => ∃ j q2 : Nat, j ≤ k ∧ iv = .int .i64 j ∧ wr = w7.drewN q2) (fun iv _ => k - (intOf iv).toNat)
      case atStart => exact ⟨0, 0, Nat.zero_le _, rfl, rfl⟩
      case round =>
        obtain ⟨j, q2, hj, rfl, rfl⟩ := hrel
        by_cases hlt : j < k
        · obtain ⟨b, off, xx, rfl, hb, hc, hxx, hss⟩ := hsl7.at_ hlt
          obtain ⟨b2, off2, yy, rfl, hb2, hc2, hyy, hss2⟩ := hrl.at_ hlt
          have hxb := hX xx (List.mem_of_getElem? hxx)
          have hy2 : yy = bitsN (av .f32 xx) := by
            rw [List.getElem?_map, hxx] at hyy
            injection hyy with hyy
            exact hyy.symm
          have hcs := fun wq => same_av yy xx (by rw [hy2]; exact bnd_of (bitsN_lt hxb)) (bnd_of hxb) wq
          rw [show sameA (av .f32 yy) (av .f32 xx) = true by rw [hy2]; exact back_same _ xx rfl] at hcs
          have hlt2 : (j : Int) < (k : Int) := by omega
          clear hxx hss hyy hss2 hy2 hsl7 hrl
          go_wp2_with fail
          refine wp_region_lo q2 (.bool true) (by kernel_rfl) (by kernel_rfl) ?_; (repeat (first | ((with_reducible apply wpLo_farith); rfl; rfl; rfl; intro r hr) | ((with_reducible apply wpLo_fconv); (show FloatKind.f32 ≠ .f64; decide); exact Tryd.underlying48; exact Tryd.underlying64; rfl; exact fits_wide _; intro r hr) | (refine wpLo_plain rfl (fun K hK n => ?_); go_simp; first | (refine hK _ ?_; clear hK K n) | (refine ⟨?_, hK _ ?_⟩; rotate_left; clear hK K n; rotate_left; (exact lo_call_same (hcs _)))))); refine wpLo_nil ?_; intro nq
          go_wp2_with fail
          go_roundw
          case rel => exact ⟨j + 1, _, by omega, by go_num, rfl⟩
          case measure => simp [intOf]; omega
        · obtain rfl : j = k := by omega
          obtain ⟨V, hVb, hang⟩ := implAngle_any (y := y) (x := x) (by simpa [Lit.wf] using hy) (by simpa [Lit.wf] using hx)
          have hof := angleOf_any hang
          go_wp2_with fail
          refine (hang _).mono ?_
          rintro e w' ⟨ra, na, rfl, ha, rfl⟩
          go_wp2_with fail
          refine (hof _).mono ?_
          rintro e w' ⟨rb, nb, rfl, hb, rfl⟩
          have hs6 := fun wq => same_av ra rb (by rw [ha.out]; exact hVb) (by rw [hb.out]; exact hVb) wq
          rw [ha.out, hb.out, show sameA V V = true by simp [sameA]] at hs6
          clear ha hb hang hof hVb
          go_wp2_with fail
          refine (hs6 _).mono ?_
          rintro e w' ⟨rfl, rfl⟩
          clear hs6
          go_wp2_with fail
          refine upon_fconv (k := .f64) (by decide) Tryd.underlying48 Tryd.underlying64 (fits_wide _) (fun r8 n8 hr8 => ?_)
          go_wp2_with fail
          refine (narrow_any x r8 hx hr8 _).mono ?_
          rintro e w' ⟨r9, n9, rfl, hr9, rfl⟩
          have hs7 := fun wq => same_av r9 x (by rw [hr9.out]; exact bnd_of hx) (bnd_of hx) wq
          rw [hr9.out, show sameA (av .f32 x) (av .f32 x) = true by simp [sameA]] at hs7
          clear hr8 hr9
          go_wp2_with fail
          refine (hs7 _).mono ?_
          rintro e w' ⟨rfl, rfl⟩
          clear hs7
          go_wp2_with fail
          refine (sine_quarter _).mono ?_
          rintro e w' ⟨n10, rfl, rfl⟩
          have hone : FloatKind.f32.format.order 1065353216 1065353216 = some .eq := by kernel_rfl
          go_wp2_with fail
          go_ret
          exact ⟨rfl, below_drewN HB _⟩
end Go.Proofs.YtedpbidphajngaaDoor
