/- Lists of complex numbers read back: the program and the model. -/
import Derived.Test.YtedpbidphajngaaDoorRH
import Derived.Test.YtedpbidphajngaaDoorN
import Derived.Test.YtedpbidphajngaaDoorMC
namespace Go.Proofs.YtedpbidphajngaaDoor
open Go.RowKit
set_option linter.unusedVariables false
set_option linter.unusedSimpArgs false
attribute [local go_sem] lo_value lo_enter

theorem info_c64 : (Tryd.prog.info? 62).map (fun i => (i.zero, i.size, i.bytes)) = some (some (.complex .f32 0 0), 1, 8) := by kernel_rfl
/-- a numeral of sixteen letters of a complex number -/
def okC (l : List UInt8) : Bool := decide (l.length = 16) && (okH (l.take 8) && okH (l.drop 8))
def valC (l : List UInt8) : Nat × Nat := (valH (l.take 8), valH (l.drop 8))
theorem okC_len {l : List UInt8} (h : l.length ≠ 16) : okC l = false := by unfold okC; rw [decide_eq_false h]; rfl
theorem okC_one {l : List UInt8} (h : okH (l.take 8) = false) : okC l = false := by unfold okC; rw [h]; simp
theorem okC_two {l : List UInt8} (h : okH (l.drop 8) = false) : okC l = false := by unfold okC; rw [h]; simp
theorem okC_both {l : List UInt8} (h : l.length = 16) (h1 : okH (l.take 8) = true) (h2 : okH (l.drop 8) = true) : okC l = true := by unfold okC; rw [h1, h2, decide_eq_true h]; rfl
/-- the parts of a text of a list are all numerals, and few -/
def cpxV (l : List UInt8) : Bool := decide ((divL l).length ≤ 256) && (divL l).all okC
def cpxL (l : List UInt8) : List (Nat × Nat) := bif cpxV l then (divL l).map valC else []
theorem cpxL_len (l : List UInt8) : (cpxL l).length ≤ 256 := by
  unfold cpxL
  cases h : cpxV l
  · simp
  · unfold cpxV at h
    rw [Bool.and_eq_true] at h
    have := of_decide_eq_true h.1
    show ((divL l).map valC).length ≤ _
    rw [List.length_map]; omega
theorem own_stay {w w' : World} {base size n : Nat} {e : TypeId} {v : Value} {xs : List Value} (h : w.ownsRow base e size v n xs) (hb : Below w.heap.size w w') : w'.ownsRow base e size v n xs :=
  h.kept (row := none) ⟨hb.os, hb.tape, hb.output, hb.size, fun k hk _ => hb.block k hk⟩ (by cases v.ownBlock <;> simp)
theorem own_empty (w : World) (base : Nat) (e : TypeId) (hb : base ≤ w.heap.size) : (w.alloc (.cells #[] e)).ownsRow base e 1 (.slice (some ⟨w.heap.size, 0, none⟩) 0 0) 0 [] :=
  World.ownsRow_lit (base := base) (e := e) (size := 1) w #[] 0 hb (by unfold maxLen; omega) rfl
theorem half_one (X : ByteArray) : (X.extract 0 8).data.toList = X.data.toList.take 8 := Lib.extract_from_zero X 8
theorem half_two (X : ByteArray) : (X.extract 8 X.size).data.toList = X.data.toList.drop 8 := by
  rw [Lib.extract_data, List.take_of_length_le (by simp)]
theorem half_sizes {X : ByteArray} (h : X.size = 16) : (X.extract 0 8).size = 8 ∧ (X.extract 8 X.size).size = 8 := by
  rw [ByteArray.size_extract, ByteArray.size_extract]; omega
set_option maxHeartbeats 2000000 in
set_option maxRecDepth 100000 in
theorem l01CRead_any (s : ByteArray) (hs : s.size ≤ 1048576) (w : World) :
    Calls Tryd.prog 62 #[.string s] w fun e w' => ∃ u, e = .returned (.tuple #[u, .bool (cpxV s.data.toList)]) ∧ w'.ownsRow w.heap.size 62 1 u (cpxL s.data.toList).length ((cpxL s.data.toList).map cpx) ∧ Below w.heap.size w w' := by
  obtain ⟨i0, hi0, hz0, hz1, hz2⟩ := info_parts info_c64
  have HOwn := own_empty w w.heap.size 62 (Nat.le_refl _)
  have HB0 : Below w.heap.size w (w.alloc (.cells #[] 62)) := (Below.refl _ _).alloc (Nat.le_refl _) _
  by_cases hn : s.data.toList = [110, 111, 110, 101]
  · have HV : Hid (cpxV s.data.toList = true) := by show _ = _; unfold cpxV; rw [divL_none hn]; rfl
    have HL : Hid (cpxL s.data.toList = []) := by show _ = _; unfold cpxL; rw [HV.out, divL_none hn]; rfl
    obtain rfl := none_yes hn
    clear hn
    generalize cpxV noneB.data.toList = bn at *
    generalize cpxL noneB.data.toList = ln at *
    obtain rfl : bn = true := HV.out
    obtain rfl : ln = [] := HL.out
    unfold noneB
    go_enter Tryd.func62, Tryd.ntmps62
    go_wp2_with fail
    go_ret2
    exact ⟨_, rfl, HOwn, HB0⟩
  · have HN := none_no hn
    have HD := Lib.hid (divL_not hn)
    clear hn
    have hV : Hid (cpxV s.data.toList = (decide ((cutF [] s.data.toList).length ≤ 256) && (cutF [] s.data.toList).all okC)) := by show _ = _; unfold cpxV; rw [HD.out]
    have hL : Hid (cpxV s.data.toList = true → cpxL s.data.toList = (cutF [] s.data.toList).map valC) := by
      intro h; unfold cpxL; rw [h, HD.out]; rfl
    have hL0 : Hid (cpxV s.data.toList = false → cpxL s.data.toList = []) := by
      intro h; unfold cpxL; rw [h]; rfl
    have hcutc := fun wq => l01Cut_any s hs wq
    generalize cpxV s.data.toList = V at *
    generalize cpxL s.data.toList = LL at *
    generalize cutF [] s.data.toList = ps at *
    generalize hnn : ps.length = n at *
    have HLN := Lib.hid hnn
    clear hnn HD
    go_enter Tryd.func62, Tryd.ntmps62
    go_wp2_with fail
    refine (hcutc _).mono ?_
    rintro e w1 ⟨u, rfl, hcut, hb⟩
    have HOwn1 := own_stay HOwn hb
    have HB1 := HB0.trans (hb.mono HB0.size)
    have HB0s := HB0.size
    clear HOwn HB0 hb hcutc
    obtain ⟨A, c, rfl, _⟩ := own_sl [] hcut
    replace hcut := hcut.mono HB0s
    by_cases h64 : n ≤ 256
    rotate_left
    · have h64' : 256 < n := by omega
      obtain rfl : V = false := by rw [hV.out, decide_eq_false h64]; rfl
      obtain rfl : LL = [] := hL0.out rfl
      go_wp2_with fail
      go_ret2
      exact ⟨_, rfl, World.ownsRow_nil _ _ _ _, HB1⟩
    · go_wp2_with fail
      go_loopw [4, 6] (fun o i wr => ∃ k : Nat, k ≤ n ∧ i = .int .i64 k ∧ Below w.heap.size w wr ∧ wr.ownsRow w.heap.size 9 1 (.slice A n c) n (ps.map strV) ∧ wr.ownsRow w.heap.size 62 1 o k (((ps.take k).map valC).map cpx) ∧ Hid ((ps.take k).all okC = true)) (fun _ i _ => n - (intOf i).toNat)
      case atStart => exact ⟨0, Nat.zero_le _, rfl, HB1, hcut, HOwn1, rfl⟩
      case round =>
        clear HOwn1 hcut HB1 HB0s
        obtain ⟨k, hk, rfl, hbel, hprt, hown, hall⟩ := hrel
        by_cases hlt : k < n
        · obtain ⟨b, off, x, rfl, hbb, hc, hx, htk⟩ := (own_sl' [] hprt).at_ hlt
          have hlt2 : (k : Int) < (n : Int) := by omega
          have HX := Lib.hid hx
          have HT := Lib.hid htk
          clear hx htk
          obtain ⟨X, rfl⟩ : ∃ X : ByteArray, x = X.data.toList := ⟨⟨x.toArray⟩, rfl⟩
          replace hc : wr.cell? ⟨b, off + k, none⟩ = some (.string X) := hc
          by_cases h8 : X.size = 16
          rotate_left
          · have ho : okC X.data.toList = false := okC_len (by rw [list_len]; exact h8)
            obtain rfl : V = false := by rw [hV.out, all_false HX.out ho, Bool.and_false]
            obtain rfl : LL = [] := hL0.out rfl
            have h8' : ((X.size : Int) != 16) = true := by rw [bne_iff_ne]; omega
            clear ho
            go_wp2_with fail
            go_ret2
            exact ⟨_, rfl, World.ownsRow_nil _ _ _ _, hbel⟩
          · have h8' : ((X.size : Int) != 16) = false := by rw [h8]; rfl
            have H8 := Lib.hid h8
            have hsz := half_sizes h8
            have h8l : (8 : Int) ≤ (X.size : Int) := by omega
            have hf1 := fun wq => l01Digits_any (X.extract 0 8) hsz.1 wq
            have hf2 := fun wq => l01Digits_any (X.extract 8 X.size) hsz.2 wq
            rw [half_one] at hf1
            rw [half_two] at hf2
            clear h8 hsz
            cases o1 : okH (X.data.toList.take 8)
            · obtain rfl : V = false := by rw [hV.out, all_false HX.out (okC_one o1), Bool.and_false]
              obtain rfl : LL = [] := hL0.out rfl
              rw [o1] at hf1
              clear o1
              go_wp2_with fail
              refine (hf1 _).mono ?_
              rintro e w' ⟨⟨r1, rfl, hr1⟩, rfl⟩
              go_wp2_with fail
              refine (hf2 _).mono ?_
              rintro e w' ⟨⟨r2, rfl, hr2⟩, rfl⟩
              go_wp2_with fail
              go_ret2
              exact ⟨_, rfl, World.ownsRow_nil _ _ _ _, hbel⟩
            · cases o2 : okH (X.data.toList.drop 8)
              · obtain rfl : V = false := by rw [hV.out, all_false HX.out (okC_two o2), Bool.and_false]
                obtain rfl : LL = [] := hL0.out rfl
                rw [o1] at hf1
                rw [o2] at hf2
                clear o1 o2
                go_wp2_with fail
                refine (hf1 _).mono ?_
                rintro e w' ⟨⟨r1, rfl, hr1⟩, rfl⟩
                go_wp2_with fail
                refine (hf2 _).mono ?_
                rintro e w' ⟨⟨r2, rfl, hr2⟩, rfl⟩
                go_wp2_with fail
                go_ret2
                exact ⟨_, rfl, World.ownsRow_nil _ _ _ _, hbel⟩
              · have HO : Hid (okC X.data.toList = true) := okC_both (by rw [list_len]; exact H8.out) o1 o2
                rw [o1] at hf1
                rw [o2] at hf2
                clear o1 o2
                go_wp2_with fail
                refine (hf1 _).mono ?_
                rintro e w' ⟨⟨r1, rfl, hr1⟩, rfl⟩
                have HR1 := Lib.hid (hr1 rfl)
                clear hr1
                go_wp2_with fail
                refine (hf2 _).mono ?_
                rintro e w' ⟨⟨r2, rfl, hr2⟩, rfl⟩
                have HR2 : Hid (valC X.data.toList = (r1, r2)) := by show _ = _; unfold valC; rw [← HR1.out, ← hr2 rfl]
                clear hr2
                go_wp2_with (first
                  | (at_builtin; refine wpList_append_own _ rfl _ _ 41 rfl w.heap.size 62 i0 _ 1 8 Tryd.underlying41 hi0 hz0 hz1 hz2 rfl (by omega) _ k (((ps.take k).map valC).map cpx) rfl (by exact World.ownsRow.alloc (by exact hown) _) ⟨wr.heap.size, 0, none⟩ 1 1 [.complex .f32 r1 r2] rfl rfl (by exact World.news_of_block (cs := #[.complex .f32 r1 r2]) (t := 62) (fr := (0, 0)) (heap_alloc_new wr _)) (by simp [Value.oneCell']) (by unfold maxLen; omega) (by omega) (by have := hbel.size; simp; omega) ?_; intro v' w3 hown3 hgrow _))
                go_roundw
                case rel => exact ⟨k + 1, by omega, by go_num, below_grown_h (Below.alloc hbel hbel.size _) hgrow (by have := hbel.size; simp; omega) (fun j e => (hown.lt j e).1), (hprt.alloc _).kept hgrow (own_apart hprt hown (by decide)), by rw [HT.out, List.map_append, List.map_append, List.map_singleton, HR2.out]; exact hown3, by show _ = _; rw [HT.out, all_snoc, hall.out, HO.out]; rfl⟩
                case measure => simp [intOf]; omega
        · obtain rfl : k = n := by omega
          have e : ps.take k = ps := by rw [← HLN.out, List.take_length]
          rw [e] at hown hall
          obtain rfl : V = true := by rw [hV.out, decide_eq_true h64, hall.out]; rfl
          obtain rfl := hL.out rfl
          go_wp2_with fail
          go_ret2
          exact ⟨_, rfl, by simp only [List.length_map, ← List.map_map, HLN.out]; exact hown, hbel⟩
theorem specReadComplex_any (s : ByteArray) (hs : s.size ≤ 1048576) (w : World) :
    Calls Tryd.prog 27 #[.string s] w fun e w' => ∃ u, e = .returned (.tuple #[u, .bool (cpxV s.data.toList)]) ∧ w'.ownsRow w.heap.size 62 1 u (cpxL s.data.toList).length ((cpxL s.data.toList).map cpx) ∧ Below w.heap.size w w' := by
  have hcon := fun wq => l01CRead_any s hs wq
  generalize cpxV s.data.toList = V at *
  go_enter Tryd.func27, Tryd.ntmps27
  go_wp2_with fail
  refine (hcon _).mono ?_
  rintro e w1 ⟨u, rfl, hown, hb⟩
  go_wp2_with fail
  go_ret2
  exact ⟨_, rfl, hown, hb⟩
set_option maxHeartbeats 1000000 in
set_option maxRecDepth 100000 in
theorem implReadComplex_any (s : ByteArray) (hs : s.size ≤ 1048576) (w : World) (hm : MaxW w) :
    Calls Tryd.prog 28 #[.string s] w fun e w' => ∃ u, e = .returned (.tuple #[u, .bool (cpxV s.data.toList)]) ∧ w'.ownsRow w.heap.size 62 1 u (cpxL s.data.toList).length ((cpxL s.data.toList).map cpx) ∧ Below w.heap.size w w' := by
  obtain ⟨i0, hi0, hz0, hz1, hz2⟩ := info_parts info_c64
  have hdivc := fun wq h => divided_any s hs wq h
  have hV : Hid (cpxV s.data.toList = (decide ((divL s.data.toList).length ≤ 256) && (divL s.data.toList).all okC)) := rfl
  have hL : Hid (cpxV s.data.toList = true → cpxL s.data.toList = (divL s.data.toList).map valC) := by
    intro h; unfold cpxL; rw [h]; rfl
  have hL0 : Hid (cpxV s.data.toList = false → cpxL s.data.toList = []) := by
    intro h; unfold cpxL; rw [h]; rfl
  generalize cpxV s.data.toList = V at *
  generalize cpxL s.data.toList = LL at *
  generalize divL s.data.toList = ps at *
  generalize hnn : ps.length = n at *
  have HLN := Lib.hid hnn
  clear hnn
  go_enter Tryd.func28, Tryd.ntmps28
  go_wp2_with fail
  refine (hdivc _ hm).mono ?_
  rintro e w1 ⟨u, rfl, hcut, hb⟩
  obtain ⟨A, c, rfl, _⟩ := own_sl [] hcut
  clear hdivc
  by_cases h64 : n ≤ 256
  rotate_left
  · obtain rfl : V = false := by rw [hV.out, decide_eq_false h64]; rfl
    obtain rfl : LL = [] := hL0.out rfl
    have hd : decide ((n : Int) ≤ 256) = false := decide_eq_false (by omega)
    go_wp2_with fail
    refine (areNumbers_any _ _).mono ?_
    rintro e w' ⟨rfl, rfl⟩
    rw [hd]
    go_wp2_with fail
    go_ret2
    exact ⟨_, rfl, World.ownsRow_nil _ _ _ _, hb⟩
  · have hd : decide ((n : Int) ≤ 256) = true := decide_eq_true (by omega)
    go_wp2_with fail
    refine (areNumbers_any _ _).mono ?_
    rintro e w' ⟨rfl, rfl⟩
    rw [hd]
    go_wp2_with fail
    go_loopw [5, 20] (fun o i wr => ∃ k : Nat, k ≤ n ∧ i = .int .i64 k ∧ Below w.heap.size w wr ∧ wr.ownsRow w.heap.size 9 1 (.slice A n c) n (ps.map strV) ∧ wr.ownsRow w.heap.size 62 1 o k (((ps.take k).map valC).map cpx) ∧ Hid ((ps.take k).all okC = true)) (fun _ i _ => n - (intOf i).toNat)
    case atStart => exact ⟨0, Nat.zero_le _, rfl, hb, hcut, World.ownsRow_nil _ _ _ _, rfl⟩
    case round =>
      clear hcut hb
      obtain ⟨k, hk, rfl, hbel, hprt, hown, hall⟩ := hrel
      by_cases hlt : k < n
      · obtain ⟨b, off, x, rfl, hbb, hc, hx, htk⟩ := (own_sl' [] hprt).at_ hlt
        have hlt2 : (k : Int) < (n : Int) := by omega
        have HX := Lib.hid hx
        have HT := Lib.hid htk
        clear hx htk
        obtain ⟨X, rfl⟩ : ∃ X : ByteArray, x = X.data.toList := ⟨⟨x.toArray⟩, rfl⟩
        replace hc : wr.cell? ⟨b, off + k, none⟩ = some (.string X) := hc
        by_cases h8 : X.size = 16
        rotate_left
        · have ho : okC X.data.toList = false := okC_len (by rw [list_len]; exact h8)
          obtain rfl : V = false := by rw [hV.out, all_false HX.out ho, Bool.and_false]
          obtain rfl : LL = [] := hL0.out rfl
          have h8' : ((X.size : Int) != 16) = true := by rw [bne_iff_ne]; omega
          clear ho
          go_wp2_with fail
          go_ret2
          exact ⟨_, rfl, World.ownsRow_nil _ _ _ _, hbel⟩
        · have h8' : ((X.size : Int) != 16) = false := by rw [h8]; rfl
          have H8 := Lib.hid h8
          have hsz := half_sizes h8
          have h8l : (8 : Int) ≤ (X.size : Int) := by omega
          have hf1 := fun wq => fromHex_any (X.extract 0 8) wq
          have hf2 := fun wq => fromHex_any (X.extract 8 X.size) wq
          rw [half_one] at hf1
          rw [half_two] at hf2
          clear h8 hsz
          cases o1 : okH (X.data.toList.take 8)
          · obtain rfl : V = false := by rw [hV.out, all_false HX.out (okC_one o1), Bool.and_false]
            obtain rfl : LL = [] := hL0.out rfl
            rw [o1] at hf1
            clear o1
            go_wp2_with fail
            refine (hf1 _).mono ?_
            rintro e w' ⟨⟨r1, rfl, hr1⟩, rfl⟩
            go_wp2_with fail
            refine (hf2 _).mono ?_
            rintro e w' ⟨⟨r2, rfl, hr2⟩, rfl⟩
            go_wp2_with fail
            go_ret2
            exact ⟨_, rfl, World.ownsRow_nil _ _ _ _, hbel⟩
          · cases o2 : okH (X.data.toList.drop 8)
            · obtain rfl : V = false := by rw [hV.out, all_false HX.out (okC_two o2), Bool.and_false]
              obtain rfl : LL = [] := hL0.out rfl
              rw [o1] at hf1
              rw [o2] at hf2
              clear o1 o2
              go_wp2_with fail
              refine (hf1 _).mono ?_
              rintro e w' ⟨⟨r1, rfl, hr1⟩, rfl⟩
              go_wp2_with fail
              refine (hf2 _).mono ?_
              rintro e w' ⟨⟨r2, rfl, hr2⟩, rfl⟩
              go_wp2_with fail
              go_ret2
              exact ⟨_, rfl, World.ownsRow_nil _ _ _ _, hbel⟩
            · have HO : Hid (okC X.data.toList = true) := okC_both (by rw [list_len]; exact H8.out) o1 o2
              rw [o1] at hf1
              rw [o2] at hf2
              clear o1 o2
              go_wp2_with fail
              refine (hf1 _).mono ?_
              rintro e w' ⟨⟨r1, rfl, hr1⟩, rfl⟩
              have HR1 := Lib.hid (hr1 rfl)
              clear hr1
              go_wp2_with fail
              refine (hf2 _).mono ?_
              rintro e w' ⟨⟨r2, rfl, hr2⟩, rfl⟩
              have HR2 : Hid (valC X.data.toList = (r1, r2)) := by show _ = _; unfold valC; rw [← HR1.out, ← hr2 rfl]
              clear hr2
              go_wp2_with (first
                | (at_builtin; refine wpList_append_own _ rfl _ _ 41 rfl w.heap.size 62 i0 _ 1 8 Tryd.underlying41 hi0 hz0 hz1 hz2 rfl (by omega) _ k (((ps.take k).map valC).map cpx) rfl (by exact World.ownsRow.alloc (by exact hown) _) ⟨wr.heap.size, 0, none⟩ 1 1 [.complex .f32 r1 r2] rfl rfl (by exact World.news_of_block (cs := #[.complex .f32 r1 r2]) (t := 62) (fr := (0, 0)) (heap_alloc_new wr _)) (by simp [Value.oneCell']) (by unfold maxLen; omega) (by omega) (by have := hbel.size; simp; omega) ?_; intro v' w3 hown3 hgrow _))
              go_roundw
              case rel => exact ⟨k + 1, by omega, by go_num, below_grown_h (Below.alloc hbel hbel.size _) hgrow (by have := hbel.size; simp; omega) (fun j e => (hown.lt j e).1), (hprt.alloc _).kept hgrow (own_apart hprt hown (by decide)), by rw [HT.out, List.map_append, List.map_append, List.map_singleton, HR2.out]; exact hown3, by show _ = _; rw [HT.out, all_snoc, hall.out, HO.out]; rfl⟩
              case measure => simp [intOf]; omega
      · obtain rfl : k = n := by omega
        have e : ps.take k = ps := by rw [← HLN.out, List.take_length]
        rw [e] at hown hall
        obtain rfl : V = true := by rw [hV.out, decide_eq_true h64, hall.out]; rfl
        obtain rfl := hL.out rfl
        go_wp2_with fail
        go_ret2
        exact ⟨_, rfl, by simp only [List.length_map, ← List.map_map, HLN.out]; exact hown, hbel⟩
end Go.Proofs.YtedpbidphajngaaDoor
