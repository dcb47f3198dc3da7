/- Lists of integers read back: the program and the model. -/
import Derived.Test.YtedpbidphajngaaDoorRD
import Derived.Test.YtedpbidphajngaaDoorCT
import Derived.Test.YtedpbidphajngaaDoorLX
namespace Go.Proofs.YtedpbidphajngaaDoor
open Go.RowKit
set_option linter.unusedVariables false
set_option linter.unusedSimpArgs false
attribute [local go_sem] lo_value lo_enter

theorem info_i64 : (Tryd.prog.info? 2).map (fun i => (i.zero, i.size, i.bytes)) = some (some (.int .i64 0), 1, 8) := by kernel_rfl
/-- the parts of a text of a list are all numerals, and few -/
def listV (l : List UInt8) : Bool := decide ((divL l).length ≤ 64) && (divL l).all okD
def listL (l : List UInt8) : List Int := bif listV l then (divL l).map valD else []
theorem valD_item {l : List UInt8} (h : okD l = true) : itemA (valD l) = true := by
  obtain ⟨a, b, _⟩ := okD_parts h
  rw [show valD l = cand l by unfold valD; rw [h]; rfl]
  exact inR_true a b
theorem allItem_valD {ps : List (List UInt8)} (h : ps.all okD = true) : allItem (ps.map valD) = true := by
  unfold allItem
  rw [List.all_eq_true] at h ⊢
  intro x hx
  obtain ⟨l, hl, rfl⟩ := List.mem_map.1 hx
  exact valD_item (h l hl)
theorem okD_pos {l : List UInt8} (h : okD l = true) : 0 < l.length := by
  have := (okD_size (s := ⟨l.toArray⟩) h).1
  have e : (⟨l.toArray⟩ : ByteArray).size = l.length := rfl
  omega
theorem cut_bound {s : ByteArray} (hs : s.size ≤ 1048576) (h : (cutF [] s.data.toList).all okD = true) : (cutF [] s.data.toList).length ≤ 1048576 := by
  rw [List.all_eq_true] at h
  have := cutF_full s.data.toList [] (fun x hx => okD_pos (h x hx))
  have hl : s.data.toList.length = s.size := by simp
  simp only [List.length_nil] at this
  omega
theorem div_bound {s : ByteArray} (hs : s.size ≤ 1048576) (h : (divL s.data.toList).all okD = true) : (divL s.data.toList).length ≤ 1048576 := by
  by_cases hn : s.data.toList = [110, 111, 110, 101]
  · rw [divL_none hn]; simp
  · rw [divL_not hn] at h ⊢; exact cut_bound hs h
theorem listL_len (l : List UInt8) : (listL l).length ≤ 1048576 := by
  unfold listL
  cases h : listV l
  · simp
  · unfold listV at h
    rw [Bool.and_eq_true] at h
    have := of_decide_eq_true h.1
    show ((divL l).map valD).length ≤ _
    rw [List.length_map]; omega
set_option maxHeartbeats 1000000 in
set_option maxRecDepth 100000 in
theorem l01Numbers_any (s : ByteArray) (hs : s.size ≤ 1048576) (w : World) :
    Calls Tryd.prog 50 #[.string s] w fun e w' => ∃ u, e = .returned (.tuple #[u, .bool (listV s.data.toList)]) ∧ w'.ownsRow w.heap.size 2 1 u (listL s.data.toList).length ((listL s.data.toList).map (Value.int .i64)) ∧ Below w.heap.size w w' := by
  obtain ⟨i0, hi0, hz0, hz1, hz2⟩ := info_parts info_i64
  have HOwn := World.ownsRow_lit (base := w.heap.size) (e := 2) (size := 1) w #[] 0 (Nat.le_refl _) (by unfold maxLen; omega) rfl
  have HB0 : Below w.heap.size w (w.alloc (.cells #[] 2)) := (Below.refl _ _).alloc (Nat.le_refl _) _
  by_cases hn : s.data.toList = [110, 111, 110, 101]
  · have HV : Hid (listV s.data.toList = true) := by show _ = _; unfold listV; rw [divL_none hn]; rfl
    have HL : Hid (listL s.data.toList = []) := by show _ = _; unfold listL; rw [HV.out, divL_none hn]; rfl
    obtain rfl := none_yes hn
    clear hn
    generalize listV noneB.data.toList = bn at *
    generalize listL noneB.data.toList = ln at *
    obtain rfl : bn = true := HV.out
    obtain rfl : ln = [] := HL.out
    unfold noneB
    go_enter Tryd.func50, Tryd.ntmps50
    go_wp2_with fail
    go_ret2
    exact ⟨_, rfl, HOwn, HB0⟩
  · have HN := none_no hn
    have HD := Lib.hid (divL_not hn)
    clear hn
    have hpart := fun x hx => cut_part (x := x) hs hx
    have hV : Hid (listV s.data.toList = (decide ((cutF [] s.data.toList).length ≤ 64) && (cutF [] s.data.toList).all okD)) := by show _ = _; unfold listV; rw [HD.out]
    have hL : Hid (listV s.data.toList = true → listL s.data.toList = (cutF [] s.data.toList).map valD) := by
      intro h; unfold listL; rw [h, HD.out]; rfl
    have hL0 : Hid (listV s.data.toList = false → listL s.data.toList = []) := by
      intro h; unfold listL; rw [h]; rfl
    have hcutc := fun wq => l01Cut_any s hs wq
    generalize listV s.data.toList = V at *
    generalize listL s.data.toList = LL at *
    generalize cutF [] s.data.toList = ps at *
    generalize hnn : ps.length = n at *
    have HLN := Lib.hid hnn
    clear hnn HD
    go_enter Tryd.func50, Tryd.ntmps50
    go_wp2_with fail
    refine (hcutc _).mono ?_
    rintro e w1 ⟨u, rfl, hcut, hb⟩
    have HOwn1 := own_below HOwn hb
    have HB1 := HB0.trans (hb.mono HB0.size)
    have HB0s := HB0.size
    clear HOwn HB0 hb hcutc
    obtain ⟨A, c, rfl, _⟩ := own_sl [] hcut
    replace hcut := hcut.mono HB0s
    by_cases h64 : n ≤ 64
    rotate_left
    · have h64' : 64 < n := by omega
      obtain rfl : V = false := by rw [hV.out, decide_eq_false h64]; rfl
      obtain rfl : LL = [] := hL0.out rfl
      go_wp2_with fail
      go_ret2
      exact ⟨_, rfl, World.ownsRow_nil _ _ _ _, HB1⟩
    · go_wp2_with fail
      go_loopw [4, 6] (fun o i wr => ∃ k : Nat, k ≤ n ∧ i = .int .i64 k ∧ Below w.heap.size w wr ∧ wr.ownsRow w.heap.size 9 1 (.slice A n c) n (ps.map strV) ∧ wr.ownsRow w.heap.size 2 1 o k (((ps.take k).map valD).map (Value.int .i64)) ∧ Hid ((ps.take k).all okD = true)) (fun _ i _ => n - (intOf i).toNat)
      case atStart => exact ⟨0, Nat.zero_le _, rfl, HB1, hcut, HOwn1, rfl⟩
      case round =>
        clear HOwn1 hcut HB1 HB0s
        obtain ⟨k, hk, rfl, hbel, hprt, hown, hall⟩ := hrel
        by_cases hlt : k < n
        · obtain ⟨b, off, x, rfl, hbb, hc, hx, htk⟩ := (own_sl' [] hprt).at_ hlt
          have hlt2 : (k : Int) < (n : Int) := by omega
          have hxl := hpart x (List.mem_of_getElem? hx)
          have HX := Lib.hid hx
          have HT := Lib.hid htk
          unfold strV at hc
          clear hx htk hpart
          cases ho : okD x
          · have HO := Lib.hid ho
            obtain rfl : V = false := by rw [hV.out, all_false HX.out ho, Bool.and_false]
            obtain rfl : LL = [] := hL0.out rfl
            go_wp2_with fail
            refine (l01Value_any ⟨x.toArray⟩ (by rw [strB_size]; exact hxl) _).mono ?_
            rintro e w2 ⟨rfl, hb2⟩
            rw [show okD (⟨x.toArray⟩ : ByteArray).data.toList = false from HO.out]
            go_wp2_with fail
            go_ret2
            exact ⟨_, rfl, World.ownsRow_nil _ _ _ _, hbel.trans (hb2.mono hbel.size)⟩
          · have HO := Lib.hid ho
            go_wp2_with fail
            refine (l01Value_any ⟨x.toArray⟩ (by rw [strB_size]; exact hxl) _).mono ?_
            rintro e w2 ⟨rfl, hb2⟩
            rw [show okD (⟨x.toArray⟩ : ByteArray).data.toList = true from HO.out, show valD (⟨x.toArray⟩ : ByteArray).data.toList = valD x from rfl]
            have hbel2 := hbel.trans (hb2.mono hbel.size)
            have hown2 := own_below hown hb2
            have hprt2 := own_below hprt hb2
            generalize hvx : valD x = vx at *
            have HVX := Lib.hid hvx
            clear hvx ho
            go_wp2_with (first
              | (at_builtin; refine wpList_append_own _ rfl _ _ 25 rfl w.heap.size 2 i0 _ 1 8 Tryd.underlying25 hi0 hz0 hz1 hz2 rfl (by omega) _ k (((ps.take k).map valD).map (Value.int .i64)) rfl (by exact World.ownsRow.alloc (by exact hown2) _) ⟨w2.heap.size, 0, none⟩ 1 1 [.int .i64 vx] rfl rfl (by exact World.news_of_block (cs := #[.int .i64 vx]) (t := 2) (fr := (0, 0)) (heap_alloc_new w2 _)) (by simp [Value.oneCell']) (by unfold maxLen; omega) (by omega) (by have := hbel2.size; simp; omega) ?_; intro v' w3 hown3 hgrow _))
            go_roundw
            case rel => exact ⟨k + 1, by omega, by go_num, below_grown_h (Below.alloc hbel2 hbel2.size _) hgrow (by have := hbel2.size; simp; omega) (fun j e => (hown2.lt j e).1), (hprt2.alloc _).kept hgrow (own_apart hprt2 hown2 (by decide)), by rw [HT.out, List.map_append, List.map_append, List.map_singleton, HVX.out]; exact hown3, by show _ = _; rw [HT.out, all_snoc, hall.out, HO.out]; rfl⟩
            case measure => simp [intOf]; omega
        · obtain rfl : k = n := by omega
          have e : ps.take k = ps := by rw [← HLN.out, List.take_length]
          rw [e] at hown hall
          obtain rfl : V = true := by rw [hV.out, decide_eq_true h64, hall.out]; rfl
          obtain rfl := hL.out rfl
          go_wp2_with fail
          go_ret2
          exact ⟨_, rfl, by simp only [List.length_map, ← List.map_map, HLN.out]; exact hown, hbel⟩
theorem specReadList_any (s : ByteArray) (hs : s.size ≤ 1048576) (w : World) :
    Calls Tryd.prog 12 #[.string s] w fun e w' => ∃ u, e = .returned (.tuple #[u, .bool (listV s.data.toList)]) ∧ w'.ownsRow w.heap.size 2 1 u (listL s.data.toList).length ((listL s.data.toList).map (Value.int .i64)) ∧ Below w.heap.size w w' := by
  have hcon := fun wq => l01Numbers_any s hs wq
  generalize listV s.data.toList = V at *
  go_enter Tryd.func12, Tryd.ntmps12
  go_wp2_with fail
  refine (hcon _).mono ?_
  rintro e w1 ⟨u, rfl, hown, hb⟩
  go_wp2_with fail
  go_ret2
  exact ⟨_, rfl, hown, hb⟩
set_option maxHeartbeats 1000000 in
set_option maxRecDepth 100000 in
theorem implReadList_any (s : ByteArray) (hs : s.size ≤ 1048576) (w : World) (ht : TabW w) (h1 : ErrW "strconv.ErrSyntax" w) (h2 : ErrW "strconv.ErrRange" w) (hm : MaxW w) :
    Calls Tryd.prog 13 #[.string s] w fun e w' => ∃ u, e = .returned (.tuple #[u, .bool (listV s.data.toList)]) ∧ w'.ownsRow w.heap.size 2 1 u (listL s.data.toList).length ((listL s.data.toList).map (Value.int .i64)) ∧ Below w.heap.size w w' := by
  obtain ⟨i0, hi0, hz0, hz1, hz2⟩ := info_parts info_i64
  have hdivc := fun wq h => divided_any s hs wq h
  have hpart := fun x hx => div_part (x := x) hs hx
  have hbnd := fun h => div_bound hs h
  have hV : Hid (listV s.data.toList = (decide ((divL s.data.toList).length ≤ 64) && (divL s.data.toList).all okD)) := rfl
  have hL : Hid (listV s.data.toList = true → listL s.data.toList = (divL s.data.toList).map valD) := by
    intro h; unfold listL; rw [h]; rfl
  have hL0 : Hid (listV s.data.toList = false → listL s.data.toList = []) := by
    intro h; unfold listL; rw [h]; rfl
  have hlen : (divL s.data.toList).length ≤ 1048577 := by
    have h2 := cutF_len s.data.toList []
    have hl : s.data.toList.length = s.size := by simp
    by_cases hn : s.data.toList = [110, 111, 110, 101]
    · rw [divL_none hn]; simp
    · rw [divL_not hn]; omega
  generalize listV s.data.toList = V at *
  generalize listL s.data.toList = LL at *
  generalize divL s.data.toList = ps at *
  generalize hnn : ps.length = n at *
  have HLN := Lib.hid hnn
  clear hnn
  go_enter Tryd.func13, Tryd.ntmps13
  go_wp2_with fail
  refine (hdivc _ hm).mono ?_
  rintro e w1 ⟨u, rfl, hcut, hb⟩
  obtain ⟨A, c, rfl, _⟩ := own_sl [] hcut
  clear hdivc
  go_wp2_with fail
  go_loopw [4, 12] (fun o i wr => ∃ k : Nat, k ≤ n ∧ i = .int .i64 k ∧ Below w.heap.size w wr ∧ wr.ownsRow w.heap.size 9 1 (.slice A n c) n (ps.map strV) ∧ wr.ownsRow w.heap.size 2 1 o k (((ps.take k).map valD).map (Value.int .i64)) ∧ Hid ((ps.take k).all okD = true)) (fun _ i _ => n - (intOf i).toNat)
  case atStart => exact ⟨0, Nat.zero_le _, rfl, hb, hcut, World.ownsRow_nil _ _ _ _, rfl⟩
  case round =>
    clear hcut hb
    obtain ⟨k, hk, rfl, hbel, hprt, hown, hall⟩ := hrel
    by_cases hlt : k < n
    · obtain ⟨b, off, x, rfl, hbb, hc, hx, htk⟩ := (own_sl' [] hprt).at_ hlt
      have hlt2 : (k : Int) < (n : Int) := by omega
      have hxl := hpart x (List.mem_of_getElem? hx)
      have HX := Lib.hid hx
      have HT := Lib.hid htk
      have htr := ht.below hbel
      have h1r := h1.below hbel
      have h2r := h2.below hbel
      unfold strV at hc
      clear hx htk hpart ht h1 h2 hm hbnd
      cases ho : okD x
      · have HO := Lib.hid ho
        obtain rfl : V = false := by rw [hV.out, all_false HX.out ho, Bool.and_false]
        obtain rfl : LL = [] := hL0.out rfl
        go_wp2_with fail
        refine (implReadDecimal_any ⟨x.toArray⟩ (by rw [strB_size]; exact hxl) _ htr h1r h2r).mono ?_
        rintro e w2 ⟨rfl, hb2⟩
        rw [show okD (⟨x.toArray⟩ : ByteArray).data.toList = false from HO.out]
        go_wp2_with fail
        go_ret2
        exact ⟨_, rfl, World.ownsRow_nil _ _ _ _, hbel.trans (hb2.mono hbel.size)⟩
      · have HO := Lib.hid ho
        go_wp2_with fail
        refine (implReadDecimal_any ⟨x.toArray⟩ (by rw [strB_size]; exact hxl) _ htr h1r h2r).mono ?_
        rintro e w2 ⟨rfl, hb2⟩
        rw [show okD (⟨x.toArray⟩ : ByteArray).data.toList = true from HO.out, show valD (⟨x.toArray⟩ : ByteArray).data.toList = valD x from rfl]
        have hbel2 := hbel.trans (hb2.mono hbel.size)
        have hown2 := own_below hown hb2
        have hprt2 := own_below hprt hb2
        generalize hvx : valD x = vx at *
        have HVX := Lib.hid hvx
        clear hvx ho
        go_wp2_with (first
          | (at_builtin; refine wpList_append_own _ rfl _ _ 25 rfl w.heap.size 2 i0 _ 1 8 Tryd.underlying25 hi0 hz0 hz1 hz2 rfl (by omega) _ k (((ps.take k).map valD).map (Value.int .i64)) rfl (by exact World.ownsRow.alloc (by exact hown2) _) ⟨w2.heap.size, 0, none⟩ 1 1 [.int .i64 vx] rfl rfl (by exact World.news_of_block (cs := #[.int .i64 vx]) (t := 2) (fr := (0, 0)) (heap_alloc_new w2 _)) (by simp [Value.oneCell']) (by unfold maxLen; omega) (by omega) (by have := hbel2.size; simp; omega) ?_; intro v' w3 hown3 hgrow _))
        go_roundw
        case rel => exact ⟨k + 1, by omega, by go_num, below_grown_h (Below.alloc hbel2 hbel2.size _) hgrow (by have := hbel2.size; simp; omega) (fun j e => (hown2.lt j e).1), (hprt2.alloc _).kept hgrow (own_apart hprt2 hown2 (by decide)), by rw [HT.out, List.map_append, List.map_append, List.map_singleton, HVX.out]; exact hown3, by show _ = _; rw [HT.out, all_snoc, hall.out, HO.out]; rfl⟩
        case measure => simp [intOf]; omega
    · obtain rfl : k = n := by omega
      have e : ps.take k = ps := by rw [← HLN.out, List.take_length]
      rw [e] at hown hall
      have hk2 := hbnd hall.out
      have hIV : itemsV (ps.map valD) = V := by
        rw [hV.out, hall.out, itemsV, allItem_valD hall.out, List.length_map, HLN.out]
      obtain ⟨A2, c2, rfl, hIS⟩ := own_sl 0 hown
      have hcon := fun wq h => areItems_any A2 k c2 (ps.map valD) wq h hk2
      rw [hIV] at hcon
      clear hIV
      cases V
      · obtain rfl : LL = [] := hL0.out rfl
        go_wp2_with fail
        refine (hcon _ hIS).mono ?_
        rintro e w' ⟨rfl, rfl⟩
        go_wp2_with fail
        go_ret2
        exact ⟨_, rfl, World.ownsRow_nil _ _ _ _, hbel⟩
      · obtain rfl := hL.out rfl
        go_wp2_with fail
        refine (hcon _ hIS).mono ?_
        rintro e w' ⟨rfl, rfl⟩
        go_wp2_with fail
        go_ret2
        exact ⟨_, rfl, by simp only [List.length_map, ← List.map_map, HLN.out]; exact hown, hbel⟩
end Go.Proofs.YtedpbidphajngaaDoor
