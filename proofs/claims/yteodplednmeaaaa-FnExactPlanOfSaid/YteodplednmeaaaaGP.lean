/- Gaps of prices: what the program and the model compute. -/
import Derived.Test.YteodplednmeaaaaG
namespace Go.Proofs.Yteodplednmeaaaa
open Go.RowKit
set_option linter.unusedVariables false
set_option linter.unusedSimpArgs false
attribute [local go_sem] lo_value lo_enter run_store_float

/-- rows that are valid, and prices of them -/
def pricedV (v : Int) (n1 n2 n3 : Nat) (N B G : List Nat) (m : Nat) (M : List Nat) : Bool := validV v n1 n2 n3 N B G && asLong n2 m M
theorem priced_len {v : Int} {n1 n2 n3 : Nat} {N B G : List Nat} {m : Nat} {M : List Nat} (h : asLong n2 m M = true) : n2 ≤ m ∧ m ≤ n2 := by
  simp only [asLong, Bool.and_eq_true, beq_iff_eq] at h
  omega
set_option maxRecDepth 100000 in
theorem l02Priced_any (p : Nat) (v : Int) (A1 A2 A3 : Option Addr) (n1 n2 n3 c1 c2 c3 : Nat) (N B G : List Nat) (X : Option Addr) (m d : Nat) (M : List Nat) (w : World) (hr : Row w p 36 #[.int .i64 v, .slice A1 n1 c1, .slice A2 n2 c2, .slice A3 n3 c3]) (h1 : FS w A1 n1 N) (h2 : FS w A2 n2 B) (h3 : FS w A3 n3 G) (b1 : n1 ≤ 1048576) (b2 : n2 ≤ 1048576) (b3 : n3 ≤ 1048576) (hx : FS w X m M) (bm : m ≤ 1048576) :
    Calls Try.prog 90 #[.pointer (some ⟨p, 0, none⟩), .slice X m d] w fun e w' => ∃ k, e = .returned (.bool (pricedV v n1 n2 n3 N B G m M)) ∧ w' = w.drewN k := by
  have q0 : w.cell? ⟨p, 0, none⟩ = some (.int .i64 v) := hr.cell 0
  have q1 : w.cell? ⟨p, 1, none⟩ = some (.slice A1 n1 c1) := hr.cell 1
  have q2 : w.cell? ⟨p, 2, none⟩ = some (.slice A2 n2 c2) := hr.cell 2
  have q3 : w.cell? ⟨p, 3, none⟩ = some (.slice A3 n3 c3) := hr.cell 3
  cases hv : validV v n1 n2 n3 N B G
  · have H : Hid (pricedV v n1 n2 n3 N B G m M = false) := by show _ = _; rw [pricedV, hv]; rfl
    go_enter Try.func90, Try.ntmps90
    go_wp2_with fail
    refine (l02Is_any p v A1 A2 A3 n1 n2 n3 c1 c2 c3 N B G _ hr h1 h2 h3 b1 b2 b3).mono ?_
    rintro e wx ⟨m1, rfl, rfl⟩
    rw [hv]
    go_wp2_with fail
    go_ret
    exact ⟨_, by rw [H.out]; rfl, rfl⟩
  cases hm : ((m : Int) == (n2 : Int))
  · have H : Hid (pricedV v n1 n2 n3 N B G m M = false) := by show _ = _; rw [pricedV, hv, asLong, hm]; rfl
    go_enter Try.func90, Try.ntmps90
    go_wp2_with fail
    refine (l02Is_any p v A1 A2 A3 n1 n2 n3 c1 c2 c3 N B G _ hr h1 h2 h3 b1 b2 b3).mono ?_
    rintro e wx ⟨m1, rfl, rfl⟩
    rw [hv]
    go_wp2_with fail
    go_ret
    exact ⟨_, by rw [H.out]; rfl, rfl⟩
  · have H : Hid (pricedV v n1 n2 n3 N B G m M = allA (finA .f32) M) := by show _ = _; rw [pricedV, hv, asLong, hm]; rfl
    go_enter Try.func90, Try.ntmps90
    go_wp2_with fail
    refine (l02Is_any p v A1 A2 A3 n1 n2 n3 c1 c2 c3 N B G _ hr h1 h2 h3 b1 b2 b3).mono ?_
    rintro e wx ⟨m1, rfl, rfl⟩
    rw [hv]
    go_wp2_with fail
    refine (specl02Finite_any X m d M _ (hx.drewN _) bm).mono ?_
    rintro e wx ⟨m2, rfl, rfl⟩
    go_wp2_with fail
    go_ret
    exact ⟨_, by rw [H.out]; rfl, rfl⟩
set_option maxRecDepth 100000 in
theorem isY_any (v : Int) (A1 A2 A3 : Option Addr) (n1 n2 n3 c1 c2 c3 : Nat) (X : Option Addr) (m d : Nat) (M : List Nat) (w : World) (hx : FS w X m M) (bm : m ≤ 1048576) :
    Calls Try.prog 93 #[.agg #[.int .i64 v, .slice A1 n1 c1, .slice A2 n2 c2, .slice A3 n3 c3], .slice X m d] w fun e w' => e = .returned (.bool (asLong n2 m M)) ∧ Below w.heap.size w w' := by
  have HB : Below w.heap.size w (w.alloc (.cells #[.int .i64 v, .slice A1 n1 c1, .slice A2 n2 c2, .slice A3 n3 c3] 36)) := (Below.refl _ _).alloc (Nat.le_refl _) _
  have kx := hx.below HB
  cases hm : ((m : Int) == (n2 : Int))
  · have H : Hid (asLong n2 m M = false) := by show _ = _; rw [asLong, hm]; rfl
    go_enter Try.func93, Try.ntmps93
    go_wp2_with fail
    go_ret
    exact ⟨by rw [H.out]; rfl, HB⟩
  · have H : Hid (asLong n2 m M = allA (finA .f32) M) := by show _ = _; rw [asLong, hm]; rfl
    go_enter Try.func93, Try.ntmps93
    go_wp2_with fail
    refine (implareFinite_any X m d M _ kx bm).mono ?_
    rintro e wx ⟨m2, rfl, rfl⟩
    go_wp2_with fail
    go_ret
    exact ⟨by rw [H.out]; rfl, below_drewN HB _⟩
def gapD (v : Int) (n1 n2 n3 : Nat) (N B G : List Nat) (m : Nat) (M : List Nat) (k : Nat) (Y : List Nat) : Option Nat := fop .sub .f32 (dotA (some 0) B Y) (gainA v n1 n2 n3 N B G m M)
def gapV (v : Int) (n1 n2 n3 : Nat) (N B G : List Nat) (m : Nat) (M : List Nat) (k : Nat) (Y : List Nat) : Bool := gainV v n1 n2 n3 N B G m M && asLong n2 k Y && finA .f32 (gapD v n1 n2 n3 N B G m M k Y)
def gapA (v : Int) (n1 n2 n3 : Nat) (N B G : List Nat) (m : Nat) (M : List Nat) (k : Nat) (Y : List Nat) : Option Nat := bif gapV v n1 n2 n3 N B G m M k Y then gapD v n1 n2 n3 N B G m M k Y else some 0
theorem gain_valid {v : Int} {n1 n2 n3 : Nat} {N B G : List Nat} {m : Nat} {M : List Nat} (h : gainV v n1 n2 n3 N B G m M = true) : validV v n1 n2 n3 N B G = true := by
  simp only [gainV, fitV, Bool.and_eq_true] at h
  exact h.1.1
set_option maxHeartbeats 1000000 in
set_option maxRecDepth 100000 in
theorem specPriceGap_any (v : Int) (A1 A2 A3 : Option Addr) (n1 n2 n3 c1 c2 c3 : Nat) (N B G : List Nat) (X : Option Addr) (m d : Nat) (M : List Nat) (X2 : Option Addr) (k d2 : Nat) (Y : List Nat) (w : World) (h1 : FS w A1 n1 N) (h2 : FS w A2 n2 B) (h3 : FS w A3 n3 G) (b1 : n1 ≤ 1048576) (b2 : n2 ≤ 1048576) (b3 : n3 ≤ 1048576) (hx : FS w X m M) (bm : m ≤ 1048576) (hy : FS w X2 k Y) (bk : k ≤ 1048576) :
    Calls Try.prog 46 #[.agg #[.int .i64 v, .slice A1 n1 c1, .slice A2 n2 c2, .slice A3 n3 c3], .slice X m d, .slice X2 k d2] w fun e w' => ∃ r, e = .returned (.tuple #[.float .f32 r, .bool (gapV v n1 n2 n3 N B G m M k Y)]) ∧ Hid (av .f32 r = gapA v n1 n2 n3 N B G m M k Y) ∧ Below w.heap.size w w' := by
  have HB : Below w.heap.size w (w.alloc (.cells #[.int .i64 v, .slice A1 n1 c1, .slice A2 n2 c2, .slice A3 n3 c3] 36)) := (Below.refl _ _).alloc (Nat.le_refl _) _
  have HR := Row.new w 36 #[.int .i64 v, .slice A1 n1 c1, .slice A2 n2 c2, .slice A3 n3 c3]
  have k1 := h1.below HB
  have k2 := h2.below HB
  have k3 := h3.below HB
  have kx := hx.below HB
  have ky := hy.below HB
  have H0 : Hid (gapV v n1 n2 n3 N B G m M k Y = (gainV v n1 n2 n3 N B G m M && asLong n2 k Y && finA .f32 (gapD v n1 n2 n3 N B G m M k Y))) := by show _ = _; rfl
  clear h1 h2 h3 hx hy
  go_enter Try.func46, Try.ntmps46
  go_wp2_with fail
  refine (specGainOf_any v A1 A2 A3 n1 n2 n3 c1 c2 c3 N B G X m d M _ k1 k2 k3 b1 b2 b3 kx bm).mono ?_
  rintro e w1 ⟨g, rfl, hg, hb⟩
  replace HR := HR.below hb HR.lt
  replace k1 := k1.below hb
  replace k2 := k2.below hb
  replace k3 := k3.below hb
  replace ky := ky.below hb
  replace HB := HB.trans (hb.mono HB.size)
  clear hb kx
  have q0 : w1.cell? ⟨w.heap.size, 0, none⟩ = some (.int .i64 v) := HR.cell 0
  have q1 : w1.cell? ⟨w.heap.size, 1, none⟩ = some (.slice A1 n1 c1) := HR.cell 1
  have q2 : w1.cell? ⟨w.heap.size, 2, none⟩ = some (.slice A2 n2 c2) := HR.cell 2
  have q3 : w1.cell? ⟨w.heap.size, 3, none⟩ = some (.slice A3 n3 c3) := HR.cell 3
  cases hG : gainV v n1 n2 n3 N B G m M
  · have H : Hid (gapV v n1 n2 n3 N B G m M k Y = false) := by show _ = _; rw [H0.out, hG]; rfl
    go_wp2_with fail
    go_ret2
    exact ⟨0, by rw [H.out]; rfl, by show _ = _; rw [gapA, H.out, av_zero]; rfl, HB⟩
  have hV := gain_valid hG
  have hP : pricedV v n1 n2 n3 N B G k Y = asLong n2 k Y := by rw [pricedV, hV]; rfl
  cases hl : asLong n2 k Y
  · have H : Hid (gapV v n1 n2 n3 N B G m M k Y = false) := by show _ = _; rw [H0.out, hG, hl]; rfl
    rw [hl] at hP
    go_wp2_with fail
    refine (l02Priced_any w.heap.size v A1 A2 A3 n1 n2 n3 c1 c2 c3 N B G X2 k d2 Y _ HR k1 k2 k3 b1 b2 b3 ky bk).mono ?_
    rintro e wx ⟨q1, rfl, rfl⟩
    rw [hP]
    go_wp2_with fail
    go_ret2
    exact ⟨0, by rw [H.out]; rfl, by show _ = _; rw [gapA, H.out, av_zero]; rfl, below_drewN HB _⟩
  have hle := (@priced_len v n1 n2 n3 N B G k Y hl).1
  rw [hl] at hP
  go_wp2_with fail
  refine (l02Priced_any w.heap.size v A1 A2 A3 n1 n2 n3 c1 c2 c3 N B G X2 k d2 Y _ HR k1 k2 k3 b1 b2 b3 ky bk).mono ?_
  rintro e wx ⟨q1, rfl, rfl⟩
  rw [hP]
  go_wp2_with fail
  refine (specl02Dot_any A2 X2 n2 k c2 d2 B Y _ (k2.drewN _) (ky.drewN _) b2 hle bk).mono ?_
  rintro e wx ⟨r0, q2, rfl, hr0, rfl⟩
  go_wp2_with (first | ((with_reducible apply wpList_farith); rfl; rfl; rfl; intro r n hr) | fail)
  have HD : Hid (av .f32 r = gapD v n1 n2 n3 N B G m M k Y) := by show _ = _; rw [hr.out, hr0.out, hg.out]; rfl
  cases hd : finA .f32 (gapD v n1 n2 n3 N B G m M k Y)
  · have H : Hid (gapV v n1 n2 n3 N B G m M k Y = false) := by show _ = _; rw [H0.out, hG, hl, hd]; rfl
    go_wp2_with fail
    refine (l02Number_not r _ (by rw [HD.out]; exact hd)).mono ?_
    rintro e wx ⟨q3, rfl, rfl⟩
    go_wp2_with fail
    go_ret2
    exact ⟨0, by rw [H.out]; rfl, by show _ = _; rw [gapA, H.out, av_zero]; rfl, below_drewN HB _⟩
  · have H : Hid (gapV v n1 n2 n3 N B G m M k Y = true) := by show _ = _; rw [H0.out, hG, hl, hd]; rfl
    go_wp2_with fail
    refine (l02Number_fin r _ (by rw [HD.out]; exact hd)).mono ?_
    rintro e wx ⟨q3, rfl, rfl⟩
    go_wp2_with fail
    go_ret2
    exact ⟨r, by rw [H.out]; rfl, by show _ = _; rw [gapA, H.out, HD.out]; rfl, below_drewN HB _⟩
set_option maxHeartbeats 1000000 in
set_option maxRecDepth 100000 in
theorem implPriceGap_any (v : Int) (A1 A2 A3 : Option Addr) (n1 n2 n3 c1 c2 c3 : Nat) (N B G : List Nat) (X : Option Addr) (m d : Nat) (M : List Nat) (X2 : Option Addr) (k d2 : Nat) (Y : List Nat) (w : World) (h1 : FS w A1 n1 N) (h2 : FS w A2 n2 B) (h3 : FS w A3 n3 G) (b1 : n1 ≤ 1048576) (b2 : n2 ≤ 1048576) (b3 : n3 ≤ 1048576) (hx : FS w X m M) (bm : m ≤ 1048576) (hy : FS w X2 k Y) (bk : k ≤ 1048576) :
    Calls Try.prog 47 #[.agg #[.int .i64 v, .slice A1 n1 c1, .slice A2 n2 c2, .slice A3 n3 c3], .slice X m d, .slice X2 k d2] w fun e w' => ∃ r, e = .returned (.tuple #[.float .f32 r, .bool (gapV v n1 n2 n3 N B G m M k Y)]) ∧ Hid (av .f32 r = gapA v n1 n2 n3 N B G m M k Y) ∧ Below w.heap.size w w' := by
  have HB : Below w.heap.size w (w.alloc (.cells #[.int .i64 v, .slice A1 n1 c1, .slice A2 n2 c2, .slice A3 n3 c3] 36)) := (Below.refl _ _).alloc (Nat.le_refl _) _
  have HR := Row.new w 36 #[.int .i64 v, .slice A1 n1 c1, .slice A2 n2 c2, .slice A3 n3 c3]
  have k1 := h1.below HB
  have k2 := h2.below HB
  have k3 := h3.below HB
  have kx := hx.below HB
  have ky := hy.below HB
  have H0 : Hid (gapV v n1 n2 n3 N B G m M k Y = (gainV v n1 n2 n3 N B G m M && asLong n2 k Y && finA .f32 (gapD v n1 n2 n3 N B G m M k Y))) := by show _ = _; rfl
  clear h1 h2 h3 hx hy
  go_enter Try.func47, Try.ntmps47
  go_wp2_with fail
  refine (implGainOf_any v A1 A2 A3 n1 n2 n3 c1 c2 c3 N B G X m d M _ k1 k2 k3 b1 b2 b3 kx bm).mono ?_
  rintro e w1 ⟨g, rfl, hg, hb⟩
  replace HR := HR.below hb HR.lt
  replace k2 := k2.below hb
  replace ky := ky.below hb
  replace HB := HB.trans (hb.mono HB.size)
  clear hb kx k1 k3
  have q0 : w1.cell? ⟨w.heap.size, 0, none⟩ = some (.int .i64 v) := HR.cell 0
  have q1 : w1.cell? ⟨w.heap.size, 1, none⟩ = some (.slice A1 n1 c1) := HR.cell 1
  have q2 : w1.cell? ⟨w.heap.size, 2, none⟩ = some (.slice A2 n2 c2) := HR.cell 2
  have q3 : w1.cell? ⟨w.heap.size, 3, none⟩ = some (.slice A3 n3 c3) := HR.cell 3
  cases hG : gainV v n1 n2 n3 N B G m M
  · have H : Hid (gapV v n1 n2 n3 N B G m M k Y = false) := by show _ = _; rw [H0.out, hG]; rfl
    go_wp2_with fail
    go_ret2
    exact ⟨0, by rw [H.out]; rfl, by show _ = _; rw [gapA, H.out, av_zero]; rfl, HB⟩
  go_wp2_with fail
  refine (isY_any v A1 A2 A3 n1 n2 n3 c1 c2 c3 X2 k d2 Y _ ky bk).mono ?_
  rintro e w2 ⟨rfl, hb⟩
  clear q0 q1 q2 q3
  replace HR := HR.below hb HR.lt
  replace k2 := k2.below hb
  replace ky := ky.below hb
  replace HB := HB.trans (hb.mono HB.size)
  clear hb
  have q0 : w2.cell? ⟨w.heap.size, 0, none⟩ = some (.int .i64 v) := HR.cell 0
  have q1 : w2.cell? ⟨w.heap.size, 1, none⟩ = some (.slice A1 n1 c1) := HR.cell 1
  have q2 : w2.cell? ⟨w.heap.size, 2, none⟩ = some (.slice A2 n2 c2) := HR.cell 2
  have q3 : w2.cell? ⟨w.heap.size, 3, none⟩ = some (.slice A3 n3 c3) := HR.cell 3
  cases hl : asLong n2 k Y
  · have H : Hid (gapV v n1 n2 n3 N B G m M k Y = false) := by show _ = _; rw [H0.out, hG, hl]; rfl
    go_wp2_with fail
    go_ret2
    exact ⟨0, by rw [H.out]; rfl, by show _ = _; rw [gapA, H.out, av_zero]; rfl, HB⟩
  have hle := (@priced_len v n1 n2 n3 N B G k Y hl).1
  go_wp2_with fail
  refine (impldot_any A2 X2 n2 k c2 d2 B Y _ k2 ky b2 hle bk).mono ?_
  rintro e wx ⟨r0, q, rfl, hr0, rfl⟩
  go_wp2_with (first | ((with_reducible apply wpList_farith); rfl; rfl; rfl; intro r n hr) | fail)
  have HD : Hid (av .f32 r = gapD v n1 n2 n3 N B G m M k Y) := by show _ = _; rw [hr.out, hr0.out, hg.out]; rfl
  cases hd : finA .f32 (gapD v n1 n2 n3 N B G m M k Y)
  · have H : Hid (gapV v n1 n2 n3 N B G m M k Y = false) := by show _ = _; rw [H0.out, hG, hl, hd]; rfl
    go_wp2_with fail
    refine (implIsFinite_any _ _).mono ?_
    rintro e wx ⟨m1, rfl, rfl⟩
    rw [HD.out, hd]
    go_wp2_with fail
    go_ret2
    exact ⟨0, by rw [H.out]; rfl, by show _ = _; rw [gapA, H.out, av_zero]; rfl, below_drewN HB _⟩
  · have H : Hid (gapV v n1 n2 n3 N B G m M k Y = true) := by show _ = _; rw [H0.out, hG, hl, hd]; rfl
    go_wp2_with fail
    refine (implIsFinite_any _ _).mono ?_
    rintro e wx ⟨m1, rfl, rfl⟩
    rw [HD.out, hd]
    go_wp2_with fail
    go_ret2
    exact ⟨r, by rw [H.out]; rfl, by show _ = _; rw [gapA, H.out, HD.out]; rfl, below_drewN HB _⟩
end Go.Proofs.Yteodplednmeaaaa
