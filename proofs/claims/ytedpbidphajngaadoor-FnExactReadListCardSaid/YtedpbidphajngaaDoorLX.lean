/- Texts of lists of integers. -/
import Derived.Test.YtedpbidphajngaaDoorDD
import Derived.Test.YtedpbidphajngaaDoorT
import Derived.Test.YtedpbidphajngaaDoorO
namespace Go.Proofs.YtedpbidphajngaaDoor
open Go.RowKit
set_option linter.unusedVariables false
set_option linter.unusedSimpArgs false
attribute [local go_sem] lo_value lo_enter

theorem own_below {w w' : World} {base size n : Nat} {e : TypeId} {v : Value} {xs : List Value} (h : w.ownsRow base e size v n xs) (hb : Below w.heap.size w w') : w'.ownsRow base e size v n xs :=
  h.kept (row := none) ⟨hb.os, hb.tape, hb.output, hb.size, fun k hk _ => hb.block k hk⟩ (by cases v.ownBlock <;> simp)
theorem decDigits_len : ∀ (k u : Nat), u < 10 ^ (k + 1) → (Lib.decDigits u).length ≤ k + 1
  | 0, u, h => by rw [Lib.decDigits, dif_pos (by simpa using h)]; simp
  | k + 1, u, h => by
    rw [Lib.decDigits]
    by_cases hu : u < 10
    · rw [dif_pos hu]; simp
    · rw [dif_neg hu, List.length_append]
      have := decDigits_len k (u / 10) (by rw [Nat.pow_succ] at h; omega)
      simp; omega
theorem itoa_len {n : Int} (h0 : -1000000000000000 ≤ n) (h1 : n ≤ 1000000000000000) : (Lib.itoa n).length ≤ 17 := by
  have h2 := decDigits_len 15 n.natAbs (by have : (10 : Nat) ^ 16 = 10000000000000000 := by decide
                                           omega)
  by_cases hn : n < 0
  · rw [itoa_neg hn, List.length_cons]; omega
  · rw [itoa_pos hn]; omega
/-- all are from -MaxValue to MaxValue -/
def itemA (x : Int) : Bool := inR x (-1000000000000000) 1000000000000000
def allItem (L : List Int) : Bool := L.all itemA
theorem allItem_snoc (l : List Int) (x : Int) : allItem (l ++ [x]) = (allItem l && itemA x) := by simp [allItem]
theorem allItem_false {L : List Int} {k : Nat} {x : Int} (h : L[k]? = some x) (hx : itemA x = false) : allItem L = false := by
  unfold allItem; rw [List.all_eq_false]; exact ⟨x, List.mem_of_getElem? h, by simp [hx]⟩
theorem allItem_at {L : List Int} {x : Int} (h : allItem L = true) (hx : x ∈ L) : -1000000000000000 ≤ x ∧ x ≤ 1000000000000000 := by
  unfold allItem at h; rw [List.all_eq_true] at h; exact inR_of (h x hx)
def itemsV (L : List Int) : Bool := decide (L.length ≤ 64) && allItem L
set_option maxRecDepth 100000 in
theorem allWithin_any (A : Option Addr) (n c : Nat) (L : List Int) (w : World) (h : IS w A n L) (hn : n ≤ 1048576) :
    Calls Tryd.prog 88 #[.slice A n c, .int .i64 (-1000000000000000), .int .i64 1000000000000000] w fun e w' => e = .returned (.bool (allItem L)) ∧ w = w' := by
  have hL := Lib.hid h.1
  go_enter Tryd.func88, Tryd.ntmps88
  go_wp2_with fail
  go_loop [11] (fun i => ∃ k : Nat, k ≤ n ∧ i = .int .i64 k ∧ allItem (L.take k) = true) (fun i => n - (intOf i).toNat)
  case atStart => exact ⟨0, Nat.zero_le _, rfl, rfl⟩
  case round =>
    obtain ⟨k, hk, rfl, hrel⟩ := hrel
    have HR := Lib.hid hrel
    clear hrel
    by_cases hlt : k < n
    · obtain ⟨b, off, x, rfl, hb, hc, hx, hs⟩ := h.at_ hlt
      have HX := Lib.hid hx
      have HS := Lib.hid hs
      have hlt2 : (k : Int) < (n : Int) := by omega
      clear hx hs h
      cases hi : itemA x
      · have HI := Lib.hid hi
        go_wp2_with fail
        refine (within_any _ _ _ _).mono ?_
        rintro e w' ⟨rfl, rfl⟩
        rw [show inR x (-1000000000000000) 1000000000000000 = itemA x from rfl, HI.out]
        go_wp2_with fail
        go_ret
        exact ⟨ret_bool (by rw [allItem_false HX.out HI.out]), rfl⟩
      · have HI := Lib.hid hi
        go_wp2_with fail
        refine (within_any _ _ _ _).mono ?_
        rintro e w' ⟨rfl, rfl⟩
        rw [show inR x (-1000000000000000) 1000000000000000 = itemA x from rfl, HI.out]
        go_wp2_with fail
        go_round
        case rel => exact ⟨k + 1, by omega, by go_num, by rw [HS.out, allItem_snoc, HR.out, HI.out]; rfl⟩
        case measure => simp [intOf]; omega
    · obtain rfl : k = n := by omega
      go_wp2_with fail
      go_ret
      exact ⟨ret_bool (by rw [← HR.out, show L.take k = L by rw [← hL.out, List.take_length]]), rfl⟩
theorem areItems_any (A : Option Addr) (n c : Nat) (L : List Int) (w : World) (h : IS w A n L) (hn : n ≤ 1048576) :
    Calls Tryd.prog 52 #[.slice A n c] w fun e w' => e = .returned (.bool (itemsV L)) ∧ w = w' := by
  have hL := h.1
  by_cases h6 : n ≤ 64
  · have HV : Hid (itemsV L = allItem L) := by show _ = _; unfold itemsV; rw [hL, decide_eq_true h6]; rfl
    have hd : decide ((n : Int) ≤ 64) = true := decide_eq_true (by omega)
    clear hL
    go_enter Tryd.func52, Tryd.ntmps52
    go_wp2_with fail
    refine (allWithin_any A n c L _ h hn).mono ?_
    rintro e wx ⟨rfl, rfl⟩
    go_wp2_with fail
    go_ret
    exact ⟨ret_bool (by rw [HV.out]), rfl⟩
  · have HV : Hid (itemsV L = false) := by show _ = _; unfold itemsV; rw [hL, decide_eq_false h6]; rfl
    have hd : decide ((n : Int) ≤ 64) = false := decide_eq_false (by omega)
    clear hL
    go_enter Tryd.func52, Tryd.ntmps52
    go_wp2_with fail
    go_ret
    exact ⟨ret_bool (by rw [HV.out]), rfl⟩
set_option maxRecDepth 100000 in
theorem l01List_any (A : Option Addr) (n c : Nat) (L : List Int) (w : World) (h : IS w A n L) (hn : n ≤ 1048576) :
    Calls Tryd.prog 55 #[.slice A n c] w fun e w' => e = .returned (.bool (itemsV L)) ∧ w = w' := by
  have hL := Lib.hid h.1
  go_enter Tryd.func55, Tryd.ntmps55
  go_wp2_with fail
  go_loop [3] (fun i => ∃ k : Nat, k ≤ n ∧ i = .int .i64 k ∧ allItem (L.take k) = true) (fun i => n - (intOf i).toNat)
  case atStart => exact ⟨0, Nat.zero_le _, rfl, rfl⟩
  case round =>
    obtain ⟨k, hk, rfl, hrel⟩ := hrel
    have HR := Lib.hid hrel
    clear hrel
    by_cases hlt : k < n
    · obtain ⟨b, off, x, rfl, hb, hc, hx, hs⟩ := h.at_ hlt
      have HX := Lib.hid hx
      have HS := Lib.hid hs
      have hlt2 : (k : Int) < (n : Int) := by omega
      clear hx hs h
      cases hi : itemA x
      · have HI := Lib.hid hi
        go_wp2_with fail
        refine (l00In_any _ _ _ _).mono ?_
        rintro e w' ⟨rfl, rfl⟩
        rw [show inR x (-1000000000000000) 1000000000000000 = itemA x from rfl, HI.out]
        go_wp2_with fail
        go_ret
        exact ⟨ret_bool (by unfold itemsV; rw [allItem_false HX.out HI.out, Bool.and_false]), rfl⟩
      · have HI := Lib.hid hi
        go_wp2_with fail
        refine (l00In_any _ _ _ _).mono ?_
        rintro e w' ⟨rfl, rfl⟩
        rw [show inR x (-1000000000000000) 1000000000000000 = itemA x from rfl, HI.out]
        go_wp2_with fail
        go_round
        case rel => exact ⟨k + 1, by omega, by go_num, by rw [HS.out, allItem_snoc, HR.out, HI.out]; rfl⟩
        case measure => simp [intOf]; omega
    · obtain rfl : k = n := by omega
      have HV : Hid (itemsV L = decide ((k : Int) ≤ 64)) := by
        show _ = _
        unfold itemsV
        rw [show allItem L = true by rw [← HR.out, show L.take k = L by rw [← hL.out, List.take_length]], hL.out, Bool.and_true, Bool.eq_iff_iff]
        simp only [decide_eq_true_eq]; omega
      go_wp2_with fail
      go_ret
      exact ⟨ret_bool (by rw [HV.out]), rfl⟩
/-- the numerals of numbers -/
def decs (L : List Int) : List (List UInt8) := L.map Lib.itoa
theorem decs_len {L : List Int} (h : allItem L = true) : ∀ x ∈ decs L, x.length ≤ 17 := by
  intro x hx
  obtain ⟨y, hy, rfl⟩ := List.mem_map.1 hx
  obtain ⟨h0, h1⟩ := allItem_at h hy
  exact itoa_len h0 h1
theorem allItem_take {L : List Int} (h : allItem L = true) (k : Nat) : allItem (L.take k) = true := by
  unfold allItem at *; rw [List.all_eq_true] at *; exact fun x hx => h x (List.mem_of_mem_take hx)
theorem decs_join {L : List Int} (h : allItem L = true) (hl : L.length ≤ 64) : (Lib.join (decs L) [44]).length ≤ 1152 := by
  have := join_length (decs L) 17 (decs_len h)
  rw [show (decs L).length = L.length by simp [decs]] at this
  have : L.length * (17 + 1) ≤ 64 * 18 := Nat.mul_le_mul_right 18 hl
  omega
theorem take_decs {L : List Int} {k : Nat} {x : Int} (hs : L.take (k + 1) = L.take k ++ [x]) : decs (L.take (k + 1)) = decs (L.take k) ++ [Lib.itoa x] := by rw [hs]; simp [decs]
def listTextS (L : List Int) : ByteArray := bif itemsV L then ⟨(textL (decs L)).toArray⟩ else ⟨#[]⟩
theorem itemsV_parts {L : List Int} (h : itemsV L = true) : L.length ≤ 64 ∧ allItem L = true := by
  unfold itemsV at h; rw [Bool.and_eq_true] at h; exact ⟨of_decide_eq_true h.1, h.2⟩
set_option maxHeartbeats 1000000 in
set_option maxRecDepth 100000 in
theorem l01Text_any (A : Option Addr) (n c : Nat) (L : List Int) (w : World) (h : IS w A n L) (hv : itemsV L = true) :
    Calls Tryd.prog 56 #[.slice A n c] w fun e w' => e = .returned (strV (textL (decs L))) ∧ Below w.heap.size w w' := by
  have hL := h.1
  obtain ⟨hl6, hall⟩ := itemsV_parts hv
  rw [hL] at hl6
  clear hv
  by_cases h0 : n = 0
  · subst h0
    obtain rfl : L = [] := List.eq_nil_of_length_eq_zero hL
    clear h hL hall
    go_enter Tryd.func56, Tryd.ntmps56
    go_wp2_with fail
    go_ret
    exact ⟨rfl, Below.refl _ _⟩
  obtain ⟨b, off, x0, rfl, hb0, hc0, hx0, hs0⟩ := h.at_ (show 0 < n by omega)
  rw [Nat.add_zero] at hc0
  have hn0 : ((n : Int) == 0) = false := by simp; omega
  have hnp : 0 < n := by omega
  have hnp2 : (0 : Int) < (n : Int) := by omega
  obtain ⟨hxa, hxb⟩ := allItem_at hall (List.mem_of_getElem? hx0)
  have HS0 : Hid (Lib.join (decs (L.take 1)) [44] = Lib.itoa x0) := by
    show _ = _
    rw [take_decs hs0, List.take_zero]; simp [decs, join_one]
  have HT : Hid (textL (decs L) = Lib.join (decs L) [44]) := by
    show _ = _
    unfold textL
    cases L with
    | nil => simp at hL; omega
    | cons a l => rfl
  have HL := Lib.hid hL
  have HA := Lib.hid hall
  clear hx0 hs0 hL hall
  go_enter Tryd.func56, Tryd.ntmps56
  go_wp2_with fail
  refine (l01Dec_any x0 (by omega) (by omega) _).mono ?_
  rintro e w1 ⟨rfl, hb1⟩
  clear hc0
  go_wp2_with fail
  go_loopw [3, 4] (fun o i wr => ∃ k : Nat, 1 ≤ k ∧ k ≤ n ∧ i = .int .i64 k ∧ o = .string ⟨(Lib.join (decs (L.take k)) [44]).toArray⟩ ∧ Below w.heap.size w wr) (fun _ i _ => n - (intOf i).toNat)
  case atStart => exact ⟨1, Nat.le_refl _, hnp, rfl, by rw [HS0.out], hb1⟩
  case round =>
    clear hb1 HS0
    obtain ⟨k, hk1, hk, rfl, rfl, hbel⟩ := hrel
    by_cases hlt : k < n
    · obtain ⟨b', off', x, e', hb', hc', hx, hs⟩ := (h.below hbel).at_ hlt
      injection e' with e'
      injection e' with e1 e2
      subst e1; subst e2
      have hlt2 : (k : Int) < (n : Int) := by omega
      obtain ⟨hya, hyb⟩ := allItem_at HA.out (List.mem_of_getElem? hx)
      have HS := Lib.hid (take_decs hs)
      have hjl := decs_join (allItem_take HA.out k) (by rw [List.length_take]; have := HL.out; omega)
      have hne : Hid (decs (L.take k) ≠ []) := by
        show _ ≠ _
        intro e
        have := congrArg List.length e
        rw [decs, List.length_map, List.length_take, List.length_nil] at this
        have := HL.out
        omega
      have hxl := itoa_len hya hyb
      clear hx hs h
      go_wp2_with fail
      refine (l01Dec_any x (by omega) (by omega) _).mono ?_
      rintro e w2 ⟨rfl, hb2⟩
      go_wp2_with fail
      go_roundw
      case rel => exact ⟨k + 1, by omega, by omega, by go_num, by rw [HS.out, join_snoc _ _ _ hne.out, ← str_append, ← str_append], hbel.trans (hb2.mono hbel.size)⟩
      case measure => simp [intOf]; omega
    · obtain rfl : k = n := by omega
      go_wp2_with fail
      go_ret
      exact ⟨by rw [HT.out, show L.take k = L by rw [← HL.out, List.take_length]]; rfl, hbel⟩
set_option maxHeartbeats 1000000 in
set_option maxRecDepth 100000 in
theorem listText_any (A : Option Addr) (n c : Nat) (L : List Int) (w : World) (h : IS w A n L) (hv : itemsV L = true) (ht : TabW w) :
    Calls Tryd.prog 57 #[.slice A n c] w fun e w' => e = .returned (strV (textL (decs L))) ∧ Below w.heap.size w w' := by
  have hL := h.1
  obtain ⟨hl6, hall⟩ := itemsV_parts hv
  rw [hL] at hl6
  clear hv
  obtain ⟨i0, hi0, hz0, hz1, hz2⟩ := info_parts info_str
  have HL := Lib.hid hL
  have HA := Lib.hid hall
  clear hL hall
  go_enter Tryd.func57, Tryd.ntmps57
  go_wp2_with fail
  go_loopw [3, 8] (fun o i wr => ∃ k : Nat, k ≤ n ∧ i = .int .i64 k ∧ Below w.heap.size w wr ∧ wr.ownsRow w.heap.size 9 1 o k ((decs (L.take k)).map strV)) (fun _ i _ => n - (intOf i).toNat)
  case atStart => exact ⟨0, Nat.zero_le _, rfl, Below.refl _ _, World.ownsRow_nil _ _ _ _⟩
  case round =>
    obtain ⟨k, hk, rfl, hbel, hown⟩ := hrel
    by_cases hlt : k < n
    · obtain ⟨b, off, x, rfl, hb, hc, hx, hs⟩ := (h.below hbel).at_ hlt
      have hlt2 : (k : Int) < (n : Int) := by omega
      obtain ⟨hya, hyb⟩ := allItem_at HA.out (List.mem_of_getElem? hx)
      have HSX := Lib.hid (take_decs hs)
      have htr := ht.below hbel
      clear hx hs h
      go_wp2_with fail
      refine (implDecimal_any x (by omega) (by omega) _ htr).mono ?_
      rintro e w2 ⟨rfl, hb2⟩
      have hbel2 := hbel.trans (hb2.mono hbel.size)
      have hown2 := own_below hown hb2
      go_wp2_with (first
        | (at_builtin; refine wpList_append_own _ rfl _ _ 70 rfl w.heap.size 9 i0 _ 1 16 Tryd.underlying70 hi0 hz0 hz1 hz2 rfl (by omega) _ k ((decs (L.take k)).map strV) rfl (by exact World.ownsRow.alloc (by exact hown2) _) ⟨w2.heap.size, 0, none⟩ 1 1 [strV (Lib.itoa x)] rfl rfl (by exact World.news_of_block (cs := #[strV (Lib.itoa x)]) (t := 9) (fr := (0, 0)) (heap_alloc_new w2 _)) (by simp [Value.oneCell', strV]) (by unfold maxLen; omega) (by omega) (by have := hbel2.size; simp; omega) ?_; intro v' w1 hown1 hgrow _))
      go_roundw
      case rel => exact ⟨k + 1, by omega, by go_num, below_grown_h (Below.alloc hbel2 hbel2.size _) hgrow (by have := hbel2.size; simp; omega) (fun j e => (hown2.lt j e).1), by rw [HSX.out, List.map_append]; exact hown1⟩
      case measure => simp [intOf]; omega
    · obtain rfl : k = n := by omega
      have hj := fun wq (e : wq = wr) => joined_any w.heap.size k _ (decs (L.take k)) wq (by subst e; exact hown) (by omega) (by have := decs_join (allItem_take HA.out k) (by rw [List.length_take]; omega); omega)
      rw [show L.take k = L by rw [← HL.out, List.take_length]] at hj
      go_wp2_with fail
      refine (hj _ rfl).mono ?_
      rintro e w2 ⟨rfl, hb⟩
      go_wp2_with fail
      go_ret
      exact ⟨rfl, hbel.trans (hb.mono hbel.size)⟩
theorem specListText_any (A : Option Addr) (n c : Nat) (L : List Int) (w : World) (h : IS w A n L) (hn : n ≤ 1048576) :
    Calls Tryd.prog 19 #[.slice A n c] w fun e w' => e = .returned (.tuple #[.string (listTextS L), .bool (itemsV L)]) ∧ Below w.heap.size w w' := by
  cases hv : itemsV L
  · have HS : Hid (listTextS L = ⟨#[]⟩) := by show _ = _; rw [listTextS, hv]; rfl
    go_enter Tryd.func19, Tryd.ntmps19
    go_wp2_with fail
    refine (l01List_any A n c L _ h hn).mono ?_
    rintro e wx ⟨rfl, rfl⟩
    rw [hv]
    go_wp2_with fail
    go_ret2
    exact ⟨by rw [HS.out]; rfl, Below.refl _ _⟩
  · have HS : Hid (listTextS L = ⟨(textL (decs L)).toArray⟩) := by show _ = _; rw [listTextS, hv]; rfl
    have hc := fun wq h => l01Text_any A n c L wq h hv
    go_enter Tryd.func19, Tryd.ntmps19
    go_wp2_with fail
    refine (l01List_any A n c L _ h hn).mono ?_
    rintro e wx ⟨rfl, rfl⟩
    rw [hv]
    go_wp2_with fail
    refine (hc _ h).mono ?_
    rintro e w2 ⟨rfl, hb⟩
    unfold strV
    go_wp2_with fail
    go_ret2
    exact ⟨by rw [HS.out]; rfl, hb⟩
theorem implListText_any (A : Option Addr) (n c : Nat) (L : List Int) (w : World) (h : IS w A n L) (hn : n ≤ 1048576) (ht : TabW w) :
    Calls Tryd.prog 21 #[.slice A n c] w fun e w' => e = .returned (.tuple #[.string (listTextS L), .bool (itemsV L)]) ∧ Below w.heap.size w w' := by
  cases hv : itemsV L
  · have HS : Hid (listTextS L = ⟨#[]⟩) := by show _ = _; rw [listTextS, hv]; rfl
    go_enter Tryd.func21, Tryd.ntmps21
    go_wp2_with fail
    refine (areItems_any A n c L _ h hn).mono ?_
    rintro e wx ⟨rfl, rfl⟩
    rw [hv]
    go_wp2_with fail
    go_ret2
    exact ⟨by rw [HS.out]; rfl, Below.refl _ _⟩
  · have HS : Hid (listTextS L = ⟨(textL (decs L)).toArray⟩) := by show _ = _; rw [listTextS, hv]; rfl
    have hc := fun wq h ht => listText_any A n c L wq h hv ht
    go_enter Tryd.func21, Tryd.ntmps21
    go_wp2_with fail
    refine (areItems_any A n c L _ h hn).mono ?_
    rintro e wx ⟨rfl, rfl⟩
    rw [hv]
    go_wp2_with fail
    refine (hc _ h ht).mono ?_
    rintro e w2 ⟨rfl, hb⟩
    unfold strV
    go_wp2_with fail
    go_ret2
    exact ⟨by rw [HS.out]; rfl, hb⟩
section
open Go.ChangeShapes Go.WideShapes Go.Joins Go.Deep
variable {H : Type} {enc : TypeId × Value → H} {w : World} {base : Nat} {spare : Nat → Bool} {held : Bool}
theorem int_cells : Tryd.prog.cellsOf 2 = 1 := by kernel_rfl
theorem open_ints_trod {fuel : Nat} {v : Value} {x : DataW H × List MemPlace} (h : DataW.trod enc Tryd.prog w base spare held fuel 25 [v] = some x) : ∃ A n c L, v = .slice A n c ∧ IArg w A n L := by
  obtain ⟨A, n, c, L, h1, h2, h3, h4⟩ := open_list (z := 0) Tryd.underlying25 int_cells (fun n v x hx => dec_int Tryd.underlying2 n v x hx) h
  exact ⟨A, n, c, L, h1, h2, h3, h4⟩
set_option maxRecDepth 100000 in
theorem open_ints_arg {r : Reach} {b0 : Nat} {v : Value} {d : DataW H} {p : List MemPlace} (hv : Value.okWide Tryd.prog w r b0 25 v) (h : DataW.Trod enc Tryd.prog w base spare held 25 v d p) : ∃ A n c L, v = .slice A n c ∧ IArg w A n L := by
  obtain ⟨fuel, hf⟩ := h
  obtain ⟨a0, len, cap, rfl⟩ := okWide_slice Tryd.underlying25 hv
  exact open_ints_trod (by simpa [Value.cells] using hf)
end
set_option maxHeartbeats 1000000 in
set_option maxRecDepth 100000 in
theorem lawListText (w : World) (A : Option Addr) (n c : Nat) (L : List Int) (h : IArg w A n L) (ht : TabW w) :
    Calls Tryd.prog 6 #[.slice A n c] w fun e w' => e = .returned (.bool true) ∧ Below w.heap.size w w' := by
  obtain ⟨h0, hm, wf1⟩ := h
  by_cases hlt : n ≤ 1048576
  rotate_left
  · have h1 : decide ((1048576 : Int) < (n : Int)) = true := decide_eq_true (by omega)
    go_enter Tryd.func6, Tryd.ntmps6
    go_wp2_with fail
    go_ret
    exact ⟨rfl, Below.refl _ _⟩
  have h1 : decide ((1048576 : Int) < (n : Int)) = false := decide_eq_false (by omega)
  go_enter Tryd.func6, Tryd.ntmps6
  go_wp2_with fail
  refine (toInt64S_any A n c L _ h0 hlt).mono ?_
  rintro e w1 ⟨s1, vs1, rfl, ls, hr1, hz1, Fs, hb⟩
  have HB := hb
  clear hb ls hr1 hz1
  go_wp2_with fail
  refine (specListText_any _ n n L _ Fs hlt).mono ?_
  rintro e w2 ⟨rfl, hb⟩
  replace HB := HB.trans (hb.mono HB.size)
  clear hb Fs
  go_wp2_with fail
  refine (toInt64S_any A n c L _ (h0.below HB) hlt).mono ?_
  rintro e w3 ⟨g1, vs2, rfl, lg, hr2, hz2, Fg, hb⟩
  replace HB := HB.trans (hb.mono HB.size)
  clear hb lg hr2 hz2
  go_wp2_with fail
  refine (implListText_any _ n n L _ Fg hlt (ht.below HB)).mono ?_
  rintro e w4 ⟨rfl, hb⟩
  replace HB := HB.trans (hb.mono HB.size)
  replace Fg := Fg.below hb
  clear hb
  go_wp2_with fail
  refine (toInt64S_any A n c L _ (h0.below HB) hlt).mono ?_
  rintro e w5 ⟨e1, vs3, rfl, le, hr3, hz3, Fe, hb⟩
  replace HB := HB.trans (hb.mono HB.size)
  replace Fg := Fg.below hb
  clear hb le hr3 hz3
  go_wp2_with fail
  refine (eqInt64S_same _ _ n _ _ L _ Fg Fe hlt).mono ?_
  rintro e wx ⟨k4, rfl, rfl⟩
  go_wp2_with fail
  go_ret
  exact ⟨rfl, below_drewN HB _⟩
end Go.Proofs.YtedpbidphajngaaDoor
