/- Lists of single floats read back: the program and the model. -/
import Derived.Test.YtedpbidphajngaaDoorRH
import Derived.Test.YtedpbidphajngaaDoorN
namespace Go.Proofs.YtedpbidphajngaaDoor
open Go.RowKit
set_option linter.unusedVariables false
set_option linter.unusedSimpArgs false
attribute [local go_sem] lo_value lo_enter

theorem info_f32 : (Tryd.prog.info? 48).map (fun i => (i.zero, i.size, i.bytes)) = some (some (.float .f32 0), 1, 4) := by kernel_rfl
/-- the parts of a text of a list are all numerals, and few -/
def numsV (l : List UInt8) : Bool := decide ((divL l).length ≤ 256) && (divL l).all okH
def numsL (l : List UInt8) : List Nat := bif numsV l then (divL l).map valH else []
theorem numsL_len (l : List UInt8) : (numsL l).length ≤ 1048576 := by
  unfold numsL
  cases h : numsV l
  · simp
  · unfold numsV at h
    rw [Bool.and_eq_true] at h
    have := of_decide_eq_true h.1
    show ((divL l).map valH).length ≤ _
    rw [List.length_map]; omega
theorem own_stay {w w' : World} {base size n : Nat} {e : TypeId} {v : Value} {xs : List Value} (h : w.ownsRow base e size v n xs) (hb : Below w.heap.size w w') : w'.ownsRow base e size v n xs :=
  h.kept (row := none) ⟨hb.os, hb.tape, hb.output, hb.size, fun k hk _ => hb.block k hk⟩ (by cases v.ownBlock <;> simp)
theorem own_empty (w : World) (base : Nat) (e : TypeId) (hb : base ≤ w.heap.size) : (w.alloc (.cells #[] e)).ownsRow base e 1 (.slice (some ⟨w.heap.size, 0, none⟩) 0 0) 0 [] :=
  World.ownsRow_lit (base := base) (e := e) (size := 1) w #[] 0 hb (by unfold maxLen; omega) rfl
set_option maxHeartbeats 2000000 in
set_option maxRecDepth 100000 in
theorem l01NRead_any (s : ByteArray) (hs : s.size ≤ 1048576) (w : World) :
    Calls Tryd.prog 58 #[.string s] w fun e w' => ∃ u, e = .returned (.tuple #[u, .bool (numsV s.data.toList)]) ∧ w'.ownsRow w.heap.size 48 1 u (numsL s.data.toList).length ((numsL s.data.toList).map (Value.float .f32)) ∧ Below w.heap.size w w' := by
  obtain ⟨i0, hi0, hz0, hz1, hz2⟩ := info_parts info_f32
  have HOwn := own_empty w w.heap.size 48 (Nat.le_refl _)
  have HB0 : Below w.heap.size w (w.alloc (.cells #[] 48)) := (Below.refl _ _).alloc (Nat.le_refl _) _
  by_cases hn : s.data.toList = [110, 111, 110, 101]
  · have HV : Hid (numsV s.data.toList = true) := by show _ = _; unfold numsV; rw [divL_none hn]; rfl
    have HL : Hid (numsL s.data.toList = []) := by show _ = _; unfold numsL; rw [HV.out, divL_none hn]; rfl
    obtain rfl := none_yes hn
    clear hn
    generalize numsV noneB.data.toList = bn at *
    generalize numsL noneB.data.toList = ln at *
    obtain rfl : bn = true := HV.out
    obtain rfl : ln = [] := HL.out
    unfold noneB
    go_enter Tryd.func58, Tryd.ntmps58
    go_wp2_with fail
    go_ret2
    exact ⟨_, rfl, HOwn, HB0⟩
  · have HN := none_no hn
    have HD := Lib.hid (divL_not hn)
    clear hn
    have hV : Hid (numsV s.data.toList = (decide ((cutF [] s.data.toList).length ≤ 256) && (cutF [] s.data.toList).all okH)) := by show _ = _; unfold numsV; rw [HD.out]
    have hL : Hid (numsV s.data.toList = true → numsL s.data.toList = (cutF [] s.data.toList).map valH) := by
      intro h; unfold numsL; rw [h, HD.out]; rfl
    have hL0 : Hid (numsV s.data.toList = false → numsL s.data.toList = []) := by
      intro h; unfold numsL; rw [h]; rfl
    have hcutc := fun wq => l01Cut_any s hs wq
    generalize numsV s.data.toList = V at *
    generalize numsL s.data.toList = LL at *
    generalize cutF [] s.data.toList = ps at *
    generalize hnn : ps.length = n at *
    have HLN := Lib.hid hnn
    clear hnn HD
    go_enter Tryd.func58, Tryd.ntmps58
    go_wp2_with fail
    refine (hcutc _).mono ?_
    rintro e w1 ⟨u, rfl, hcut, hb⟩
    have HOwn1 := own_stay HOwn hb
    have HB1 := HB0.trans (hb.mono HB0.size)
    have HB0s := HB0.size
    clear HOwn HB0 hb hcutc
    obtain ⟨A, c, rfl, _⟩ := own_sl [] hcut
    replace hcut := hcut.mono HB0s
    by_cases h64 : n ≤ 256
    rotate_left
    · have h64' : 256 < n := by omega
      obtain rfl : V = false := by rw [hV.out, decide_eq_false h64]; rfl
      obtain rfl : LL = [] := hL0.out rfl
      go_wp2_with fail
      go_ret2
      exact ⟨_, rfl, World.ownsRow_nil _ _ _ _, HB1⟩
    · go_wp2_with fail
      go_loopw [4, 6] (fun o i wr => ∃ k : Nat, k ≤ n ∧ i = .int .i64 k ∧ Below w.heap.size w wr ∧ wr.ownsRow w.heap.size 9 1 (.slice A n c) n (ps.map strV) ∧ wr.ownsRow w.heap.size 48 1 o k (((ps.take k).map valH).map (Value.float .f32)) ∧ Hid ((ps.take k).all okH = true)) (fun _ i _ => n - (intOf i).toNat)
      case atStart => exact ⟨0, Nat.zero_le _, rfl, HB1, hcut, HOwn1, rfl⟩
      case round =>
        clear HOwn1 hcut HB1 HB0s
        obtain ⟨k, hk, rfl, hbel, hprt, hown, hall⟩ := hrel
        by_cases hlt : k < n
        · obtain ⟨b, off, x, rfl, hbb, hc, hx, htk⟩ := (own_sl' [] hprt).at_ hlt
          have hlt2 : (k : Int) < (n : Int) := by omega
          have HX := Lib.hid hx
          have HT := Lib.hid htk
          clear hx htk
          obtain ⟨X, rfl⟩ : ∃ X : ByteArray, x = X.data.toList := ⟨⟨x.toArray⟩, rfl⟩
          replace hc : wr.cell? ⟨b, off + k, none⟩ = some (.string X) := hc
          by_cases h8 : X.size = 8
          rotate_left
          · have ho : okH X.data.toList = false := okH_len (by rw [list_len]; exact h8)
            obtain rfl : V = false := by rw [hV.out, all_false HX.out ho, Bool.and_false]
            obtain rfl : LL = [] := hL0.out rfl
            have h8' : ((X.size : Int) != 8) = true := by rw [bne_iff_ne]; omega
            clear ho
            go_wp2_with fail
            go_ret2
            exact ⟨_, rfl, World.ownsRow_nil _ _ _ _, hbel⟩
          · have h8' : ((X.size : Int) != 8) = false := by rw [h8]; rfl
            have H8 := Lib.hid h8
            have H2 : Hid (∀ m, hexN 0 X.data.toList = some m → okH X.data.toList = canonB m ∧ valH X.data.toList = m ∧ m < 4294967296) := fun m h =>
              ⟨(okH_some (by rw [list_len]; exact h8) h).1, (okH_some (by rw [list_len]; exact h8) h).2, (hexL_of (by rw [list_len]; exact h8) h).2⟩
            have hss : (X.size : Int) = 8 := by rw [h8]; rfl
            clear h8
            go_wp2_with fail
            go_loopg [7, 8] 8 (fun gk s7 s8 wq => wq = wr ∧ ∃ q m : Nat, q + gk = 8 ∧ s8 = .int .i64 q ∧ s7 = .int .i64 m ∧ Hid (m < 16 ^ q) ∧ Hid (hexN 0 X.data.toList = hexN m (X.data.toList.drop q)))
            case atStart => exact ⟨rfl, 0, 0, rfl, rfl, rfl, Lib.hid (by decide), rfl⟩
            case round =>
              obtain ⟨rfl, q, m, hq, rfl, rfl, hm, hh⟩ := hrel
              by_cases hq8 : q < 8
              · have hks : q < X.size := by have := H8.out; omega
                have hm2 := pow7 hq8 hm.out
                have HD := Lib.hid (drop_byte X q hks)
                have hcb := X[q].toNat_lt
                have hc2 : ((X[q].toNat : Nat) : Int) ≤ 255 := by omega
                rcases (show X[q].toNat < 48 ∨ (48 ≤ X[q].toNat ∧ X[q].toNat ≤ 57) ∨ (57 < X[q].toNat ∧ X[q].toNat < 97) ∨ (97 ≤ X[q].toNat ∧ X[q].toNat ≤ 102) ∨ 102 < X[q].toNat by omega) with h1 | ⟨h1, h2⟩ | ⟨h1, h2⟩ | ⟨h1, h2⟩ | h1
                · have g1 : ¬ (48 : Int) ≤ (X[q].toNat : Int) := by omega
                  have g2 : ¬ (97 : Int) ≤ (X[q].toNat : Int) := by omega
                  have HN : Hid (hexN 0 X.data.toList = none) := by show _ = _; rw [hh.out, HD.out, hexN_none (hexV_no (by omega) (by omega))]
                  have ho : okH X.data.toList = false := okH_none HN.out
                  obtain rfl : V = false := by rw [hV.out, all_false HX.out ho, Bool.and_false]
                  obtain rfl : LL = [] := hL0.out rfl
                  clear HN h1 ho
                  go_wp2_with fail
                  go_ret2
                  exact ⟨_, rfl, World.ownsRow_nil _ _ _ _, hbel⟩
                · have g1 : (48 : Int) ≤ (X[q].toNat : Int) := by omega
                  have g2 : (X[q].toNat : Int) ≤ 57 := by omega
                  have g3 : ¬ (97 : Int) ≤ (X[q].toNat : Int) := by omega
                  have HN : Hid (hexN 0 X.data.toList = hexN (16 * m + (X[q].toNat - 48)) (X.data.toList.drop (q + 1))) := by show _ = _; rw [hh.out, HD.out, hexN_some (hexV_dec (by omega) (by omega))]
                  have hdl : X[q].toNat - 48 < 16 := by omega
                  go_wp2_with fail
                  go_roundg (7 - q)
                  case measure => omega
                  case rel => exact ⟨by first | trivial | rfl, q + 1, 16 * m + (X[q].toNat - 48), by omega, by go_num, (by first | rfl | (congr 1; omega) | (simp; omega)), Lib.hid (by rw [Nat.pow_succ]; have := hm.out; omega), HN⟩
                · have g1 : (48 : Int) ≤ (X[q].toNat : Int) := by omega
                  have g2 : ¬ (X[q].toNat : Int) ≤ 57 := by omega
                  have g3 : ¬ (97 : Int) ≤ (X[q].toNat : Int) := by omega
                  have HN : Hid (hexN 0 X.data.toList = none) := by show _ = _; rw [hh.out, HD.out, hexN_none (hexV_no (by omega) (by omega))]
                  have ho : okH X.data.toList = false := okH_none HN.out
                  obtain rfl : V = false := by rw [hV.out, all_false HX.out ho, Bool.and_false]
                  obtain rfl : LL = [] := hL0.out rfl
                  clear HN h1 ho
                  go_wp2_with fail
                  go_ret2
                  exact ⟨_, rfl, World.ownsRow_nil _ _ _ _, hbel⟩
                · have g1 : (48 : Int) ≤ (X[q].toNat : Int) := by omega
                  have g2 : ¬ (X[q].toNat : Int) ≤ 57 := by omega
                  have g3 : (97 : Int) ≤ (X[q].toNat : Int) := by omega
                  have g4 : (X[q].toNat : Int) ≤ 102 := by omega
                  have HN : Hid (hexN 0 X.data.toList = hexN (16 * m + (X[q].toNat - 87)) (X.data.toList.drop (q + 1))) := by show _ = _; rw [hh.out, HD.out, hexN_some (hexV_let (by omega) (by omega))]
                  have hdl : X[q].toNat - 87 < 16 := by omega
                  go_wp2_with fail
                  go_roundg (7 - q)
                  case measure => omega
                  case rel => exact ⟨by first | trivial | rfl, q + 1, 16 * m + (X[q].toNat - 87), by omega, by go_num, (by first | rfl | (congr 1; omega) | (simp; omega)), Lib.hid (by rw [Nat.pow_succ]; have := hm.out; omega), HN⟩
                · have g1 : (48 : Int) ≤ (X[q].toNat : Int) := by omega
                  have g2 : ¬ (X[q].toNat : Int) ≤ 57 := by omega
                  have g3 : (97 : Int) ≤ (X[q].toNat : Int) := by omega
                  have g4 : ¬ (X[q].toNat : Int) ≤ 102 := by omega
                  have HN : Hid (hexN 0 X.data.toList = none) := by show _ = _; rw [hh.out, HD.out, hexN_none (hexV_no (by omega) (by omega))]
                  have ho : okH X.data.toList = false := okH_none HN.out
                  obtain rfl : V = false := by rw [hV.out, all_false HX.out ho, Bool.and_false]
                  obtain rfl : LL = [] := hL0.out rfl
                  clear HN h1 ho
                  go_wp2_with fail
                  go_ret2
                  exact ⟨_, rfl, World.ownsRow_nil _ _ _ _, hbel⟩
              · obtain rfl : q = 8 := by omega
                have hE := hex_end (by rw [H8.out]) hh.out
                obtain ⟨e1, e2, e4⟩ := H2.out m hE
                have HE := Lib.hid e2
                have hcb := canon_bits m
                have HO := Lib.hid e1
                clear hE e1 e2
                cases hcan : canonB m
                · have HC := Lib.hid hcan
                  rw [hcan] at hcb
                  clear hcan
                  obtain rfl : V = false := by rw [hV.out, all_false HX.out (HO.out.trans HC.out), Bool.and_false]
                  obtain rfl : LL = [] := hL0.out rfl
                  go_wp2_with fail
                  refine (l01From_any m e4 _).mono ?_
                  rintro e w' ⟨rfl, rfl⟩
                  go_wp2_with fail
                  refine (specl01Bits_any m e4 _).mono ?_
                  rintro e w' ⟨rfl, rfl⟩
                  go_wp2_with fail
                  go_ret2
                  exact ⟨_, rfl, World.ownsRow_nil _ _ _ _, hbel⟩
                · have HC := Lib.hid hcan
                  rw [hcan] at hcb
                  clear hcan
                  go_wp2_with fail
                  refine (l01From_any m e4 _).mono ?_
                  rintro e w' ⟨rfl, rfl⟩
                  go_wp2_with fail
                  refine (specl01Bits_any m e4 _).mono ?_
                  rintro e w' ⟨rfl, rfl⟩
                  go_wp2_with (first
                    | (at_builtin; refine wpList_append_own _ rfl _ _ 36 rfl w.heap.size 48 i0 _ 1 4 Tryd.underlying36 hi0 hz0 hz1 hz2 rfl (by omega) _ k (((ps.take k).map valH).map (Value.float .f32)) rfl (by exact World.ownsRow.alloc (by exact hown) _) ⟨wr.heap.size, 0, none⟩ 1 1 [.float .f32 m] rfl rfl (by exact World.news_of_block (cs := #[.float .f32 m]) (t := 48) (fr := (0, 0)) (heap_alloc_new wr _)) (by simp [Value.oneCell']) (by unfold maxLen; omega) (by omega) (by have := hbel.size; simp; omega) ?_; intro v' w3 hown3 hgrow _))
                  go_roundw
                  case rel => exact ⟨k + 1, by omega, by go_num, below_grown_h (Below.alloc hbel hbel.size _) hgrow (by have := hbel.size; simp; omega) (fun j e => (hown.lt j e).1), (hprt.alloc _).kept hgrow (own_apart hprt hown (by decide)), by rw [HT.out, List.map_append, List.map_append, List.map_singleton, HE.out]; exact hown3, by show _ = _; rw [HT.out, all_snoc, hall.out, HO.out, HC.out]; rfl⟩
                  case measure => simp [intOf]; omega
        · obtain rfl : k = n := by omega
          have e : ps.take k = ps := by rw [← HLN.out, List.take_length]
          rw [e] at hown hall
          obtain rfl : V = true := by rw [hV.out, decide_eq_true h64, hall.out]; rfl
          obtain rfl := hL.out rfl
          go_wp2_with fail
          go_ret2
          exact ⟨_, rfl, by simp only [List.length_map, ← List.map_map, HLN.out]; exact hown, hbel⟩
theorem specReadNumbers_any (s : ByteArray) (hs : s.size ≤ 1048576) (w : World) :
    Calls Tryd.prog 22 #[.string s] w fun e w' => ∃ u, e = .returned (.tuple #[u, .bool (numsV s.data.toList)]) ∧ w'.ownsRow w.heap.size 48 1 u (numsL s.data.toList).length ((numsL s.data.toList).map (Value.float .f32)) ∧ Below w.heap.size w w' := by
  have hcon := fun wq => l01NRead_any s hs wq
  generalize numsV s.data.toList = V at *
  go_enter Tryd.func22, Tryd.ntmps22
  go_wp2_with fail
  refine (hcon _).mono ?_
  rintro e w1 ⟨u, rfl, hown, hb⟩
  go_wp2_with fail
  go_ret2
  exact ⟨_, rfl, hown, hb⟩
set_option maxHeartbeats 1000000 in
set_option maxRecDepth 100000 in
theorem implReadNumbers_any (s : ByteArray) (hs : s.size ≤ 1048576) (w : World) (hm : MaxW w) :
    Calls Tryd.prog 23 #[.string s] w fun e w' => ∃ u, e = .returned (.tuple #[u, .bool (numsV s.data.toList)]) ∧ w'.ownsRow w.heap.size 48 1 u (numsL s.data.toList).length ((numsL s.data.toList).map (Value.float .f32)) ∧ Below w.heap.size w w' := by
  obtain ⟨i0, hi0, hz0, hz1, hz2⟩ := info_parts info_f32
  have hdivc := fun wq h => divided_any s hs wq h
  have hV : Hid (numsV s.data.toList = (decide ((divL s.data.toList).length ≤ 256) && (divL s.data.toList).all okH)) := rfl
  have hL : Hid (numsV s.data.toList = true → numsL s.data.toList = (divL s.data.toList).map valH) := by
    intro h; unfold numsL; rw [h]; rfl
  have hL0 : Hid (numsV s.data.toList = false → numsL s.data.toList = []) := by
    intro h; unfold numsL; rw [h]; rfl
  generalize numsV s.data.toList = V at *
  generalize numsL s.data.toList = LL at *
  generalize divL s.data.toList = ps at *
  generalize hnn : ps.length = n at *
  have HLN := Lib.hid hnn
  clear hnn
  go_enter Tryd.func23, Tryd.ntmps23
  go_wp2_with fail
  refine (hdivc _ hm).mono ?_
  rintro e w1 ⟨u, rfl, hcut, hb⟩
  obtain ⟨A, c, rfl, _⟩ := own_sl [] hcut
  clear hdivc
  by_cases h64 : n ≤ 256
  rotate_left
  · obtain rfl : V = false := by rw [hV.out, decide_eq_false h64]; rfl
    obtain rfl : LL = [] := hL0.out rfl
    have hd : decide ((n : Int) ≤ 256) = false := decide_eq_false (by omega)
    go_wp2_with fail
    refine (areNumbers_any _ _).mono ?_
    rintro e w' ⟨rfl, rfl⟩
    rw [hd]
    go_wp2_with fail
    go_ret2
    exact ⟨_, rfl, World.ownsRow_nil _ _ _ _, hb⟩
  · have hd : decide ((n : Int) ≤ 256) = true := decide_eq_true (by omega)
    go_wp2_with fail
    refine (areNumbers_any _ _).mono ?_
    rintro e w' ⟨rfl, rfl⟩
    rw [hd]
    go_wp2_with fail
    go_loopw [5, 18] (fun o i wr => ∃ k : Nat, k ≤ n ∧ i = .int .i64 k ∧ Below w.heap.size w wr ∧ wr.ownsRow w.heap.size 9 1 (.slice A n c) n (ps.map strV) ∧ wr.ownsRow w.heap.size 48 1 o k (((ps.take k).map valH).map (Value.float .f32)) ∧ Hid ((ps.take k).all okH = true)) (fun _ i _ => n - (intOf i).toNat)
    case atStart => exact ⟨0, Nat.zero_le _, rfl, hb, hcut, World.ownsRow_nil _ _ _ _, rfl⟩
    case round =>
      clear hcut hb
      obtain ⟨k, hk, rfl, hbel, hprt, hown, hall⟩ := hrel
      by_cases hlt : k < n
      · obtain ⟨b, off, x, rfl, hbb, hc, hx, htk⟩ := (own_sl' [] hprt).at_ hlt
        have hlt2 : (k : Int) < (n : Int) := by omega
        have HX := Lib.hid hx
        have HT := Lib.hid htk
        clear hx htk
        obtain ⟨X, rfl⟩ : ∃ X : ByteArray, x = X.data.toList := ⟨⟨x.toArray⟩, rfl⟩
        replace hc : wr.cell? ⟨b, off + k, none⟩ = some (.string X) := hc
        have hfx := fun wq => fromHex_any X wq
        cases ho : okH X.data.toList
        · obtain rfl : V = false := by rw [hV.out, all_false HX.out ho, Bool.and_false]
          obtain rfl : LL = [] := hL0.out rfl
          rw [ho] at hfx
          clear ho
          go_wp2_with fail
          refine (hfx _).mono ?_
          rintro e w' ⟨⟨r, rfl, _⟩, rfl⟩
          go_wp2_with fail
          go_ret2
          exact ⟨_, rfl, World.ownsRow_nil _ _ _ _, hbel⟩
        · have HO := Lib.hid ho
          rw [ho] at hfx
          clear ho
          go_wp2_with fail
          refine (hfx _).mono ?_
          rintro e w' ⟨⟨r, rfl, hr⟩, rfl⟩
          have HR := Lib.hid (hr rfl)
          clear hr
          go_wp2_with (first
            | (at_builtin; refine wpList_append_own _ rfl _ _ 36 rfl w.heap.size 48 i0 _ 1 4 Tryd.underlying36 hi0 hz0 hz1 hz2 rfl (by omega) _ k (((ps.take k).map valH).map (Value.float .f32)) rfl (by exact World.ownsRow.alloc (by exact hown) _) ⟨wr.heap.size, 0, none⟩ 1 1 [.float .f32 r] rfl rfl (by exact World.news_of_block (cs := #[.float .f32 r]) (t := 48) (fr := (0, 0)) (heap_alloc_new wr _)) (by simp [Value.oneCell']) (by unfold maxLen; omega) (by omega) (by have := hbel.size; simp; omega) ?_; intro v' w3 hown3 hgrow _))
          go_roundw
          case rel => exact ⟨k + 1, by omega, by go_num, below_grown_h (Below.alloc hbel hbel.size _) hgrow (by have := hbel.size; simp; omega) (fun j e => (hown.lt j e).1), (hprt.alloc _).kept hgrow (own_apart hprt hown (by decide)), by rw [HT.out, List.map_append, List.map_append, List.map_singleton, ← HR.out]; exact hown3, by show _ = _; rw [HT.out, all_snoc, hall.out, HO.out]; rfl⟩
          case measure => simp [intOf]; omega
      · obtain rfl : k = n := by omega
        have e : ps.take k = ps := by rw [← HLN.out, List.take_length]
        rw [e] at hown hall
        obtain rfl : V = true := by rw [hV.out, decide_eq_true h64, hall.out]; rfl
        obtain rfl := hL.out rfl
        go_wp2_with fail
        go_ret2
        exact ⟨_, rfl, by simp only [List.length_map, ← List.map_map, HLN.out]; exact hown, hbel⟩
end Go.Proofs.YtedpbidphajngaaDoor
