/- Texts cut at commas: the program and the model. -/
import Derived.Test.YtedpbidphajngaaDoorCP
import Derived.Test.YtedpbidphajngaaDoorJN
import Derived.Test.YtedpbidphajngaaDoorT
namespace Go.Proofs.YtedpbidphajngaaDoor
open Go.RowKit
set_option linter.unusedVariables false
set_option linter.unusedSimpArgs false
attribute [local go_sem] lo_value lo_enter

/-- the variable that the search for a byte reads -/
def MaxW (w : World) : Prop := ∃ m : Int, w.cell? ⟨4, 0, none⟩ = some (.int .i64 m)
theorem MaxW.below {w w' : World} (h : MaxW w) (hb : Below w.heap.size w w') : MaxW w' := by
  obtain ⟨m, h⟩ := h
  exact ⟨m, (hb.cell (p := ⟨4, 0, none⟩) (World.block_lt_of_cell? _ _ h)).trans h⟩
theorem own_at {w : World} {base g cap n : Nat} {e : TypeId} {xs : List Value} (h : w.ownsRow base e 1 (.slice (some ⟨g, 0, none⟩) n cap) n xs) {j : Nat} (hj : j < n) : ∃ x, xs[j]? = some x ∧ w.cell? ⟨g, j, none⟩ = some x := by
  have := h.1
  obtain ⟨x, hx⟩ : ∃ x, xs[j]? = some x := ⟨_, List.getElem?_eq_getElem (by omega)⟩
  exact ⟨x, hx, (h.cellAt j (by omega)).trans hx⟩
def noneB : ByteArray := ⟨#[110, 111, 110, 101]⟩
theorem none_yes {s : ByteArray} (h : s.data.toList = [110, 111, 110, 101]) : s = noneB := by
  apply ByteArray.ext
  apply Array.ext'
  rw [h]; rfl
theorem none_no {s : ByteArray} (h : s.data.toList ≠ [110, 111, 110, 101]) : (s.toList == [110, 111, 110, 101]) = false := by
  rw [ByteArray.toList_eq]
  cases hb : (s.data.toList == [110, 111, 110, 101])
  · rfl
  · exact absurd (eq_of_beq hb) h
theorem divL_none {l : List UInt8} (h : l = [110, 111, 110, 101]) : divL l = [] := by subst h; rfl
theorem divL_not {l : List UInt8} (h : l ≠ [110, 111, 110, 101]) : divL l = cutF [] l := by
  unfold divL
  cases hb : (l == [110, 111, 110, 101])
  · rfl
  · exact absurd (eq_of_beq hb) h
theorem strV_eta (x : ByteArray) : Value.string x = strV x.data.toList := rfl
theorem str_map (l : List ByteArray) : l.map Value.string = (l.map (·.data.toList)).map strV := by rw [List.map_map]; rfl
set_option maxRecDepth 100000 in
theorem divided_any (s : ByteArray) (hs : s.size ≤ 1048576) (w : World) (hm : MaxW w) :
    Calls Tryd.prog 51 #[.string s] w fun e w' => ∃ u, e = .returned u ∧ w'.ownsRow w.heap.size 9 1 u (divL s.data.toList).length ((divL s.data.toList).map strV) ∧ Below w.heap.size w w' := by
  by_cases hn : s.data.toList = [110, 111, 110, 101]
  · obtain rfl := none_yes hn
    have HD := Lib.hid (divL_none hn)
    clear hn
    generalize divL noneB.data.toList = ps at *
    obtain rfl : ps = [] := HD.out
    unfold noneB
    go_enter Tryd.func51, Tryd.ntmps51
    go_wp2_with fail
    go_ret
    exact ⟨_, rfl, World.ownsRow_nil _ _ _ _, Below.refl _ _⟩
  · have HN := none_no hn
    have HD := Lib.hid (divL_not hn)
    clear hn
    obtain ⟨m, hm⟩ := hm
    have hcon := fun wq (hw : wq = w) => Tryd.strings_Split s ⟨#[44]⟩ m wq (by omega) (by subst hw; exact hm) (by decide)
    clear hm
    go_enter Tryd.func51, Tryd.ntmps51
    go_wp2_with fail
    refine (hcon _ rfl).mono ?_
    rintro e w' ⟨rfl, rfl⟩
    go_wp2_with fail
    go_ret
    refine ⟨_, rfl, ?_, (Below.refl _ _).alloc (Nat.le_refl _) _⟩
    rw [HD.out, str_map, splitB_cut, countB_parts]
    have hcl := cutF_len s.data.toList []
    have hsl : s.data.toList.length = s.size := by simp
    have h := World.ownsRow_lit (base := w.heap.size) (e := 9) (size := 1) w ((cutF [] s.data.toList).map strV).toArray (cutF [] s.data.toList).length (Nat.le_refl _) (by unfold maxLen; omega) (by simp)
    exact h
theorem all_snoc {α : Type} (f : α → Bool) (l : List α) (x : α) : (l ++ [x]).all f = (l.all f && f x) := by simp
theorem all_false {α : Type} {f : α → Bool} {l : List α} {k : Nat} {x : α} (h : l[k]? = some x) (hx : f x = false) : l.all f = false := by
  rw [List.all_eq_false]; exact ⟨x, List.mem_of_getElem? h, by simp [hx]⟩
theorem cut_part {s : ByteArray} (hs : s.size ≤ 1048576) {x : List UInt8} (h : x ∈ cutF [] s.data.toList) : x.length ≤ 1048576 := by
  have := cutF_mem s.data.toList [] x h
  have hl : s.data.toList.length = s.size := by simp
  simp only [List.length_nil] at this
  omega
theorem div_part {s : ByteArray} (hs : s.size ≤ 1048576) {x : List UInt8} (h : x ∈ divL s.data.toList) : x.length ≤ 1048576 := by
  by_cases hn : s.data.toList = [110, 111, 110, 101]
  · rw [divL_none hn] at h; cases h
  · rw [divL_not hn] at h; exact cut_part hs h
/-- a list that the call made reads as a list -/
theorem own_sl {α : Type} {f : α → Value} (z : α) {w : World} {base n : Nat} {e : TypeId} {u : Value} {L : List α} (h : w.ownsRow base e 1 u n (L.map f)) : ∃ A c, u = .slice A n c ∧ SL f z w A n L := by
  have hl : L.length = n := by have := h.1; simpa using this
  rcases h.2 with ⟨rfl, h0⟩ | ⟨g, c, cur, rfl, _⟩
  · subst h0
    exact ⟨none, 0, rfl, hl, fun h => by omega⟩
  · refine ⟨_, c, rfl, hl, fun hn => ⟨g, 0, rfl, (h.lt g rfl).2, fun j hj => ?_⟩⟩
    rw [Nat.zero_add, h.cellAt j (by omega), List.getElem?_map, List.getD_eq_getElem?_getD, List.getElem?_eq_getElem (by omega)]
    rfl
theorem own_sl' {α : Type} {f : α → Value} (z : α) {w : World} {base n m c : Nat} {A : Option Addr} {e : TypeId} {L : List α} (h : w.ownsRow base e 1 (.slice A m c) n (L.map f)) : SL f z w A n L := by
  obtain ⟨A', c', e', h'⟩ := own_sl z h
  injection e' with e1 e2 e3
  subst e1
  exact h'
/-- lists of other types lie in other blocks -/
theorem own_apart {w : World} {b1 b2 n m s1 s2 : Nat} {e1 e2 : TypeId} {u v : Value} {xs ys : List Value} (h : w.ownsRow b1 e1 s1 u n xs) (h' : w.ownsRow b2 e2 s2 v m ys) (hne : e1 ≠ e2) : u.ownBlock = none ∨ u.ownBlock ≠ v.ownBlock := by
  rcases h.2 with ⟨rfl, _⟩ | ⟨g, c, cur, rfl, _, hg, _⟩
  · exact .inl rfl
  · rcases h'.2 with ⟨rfl, _⟩ | ⟨g', c', cur', rfl, _, hg', _⟩
    · exact .inr (by simp [Value.ownBlock])
    · refine .inr ?_
      show some g ≠ some g'
      intro e
      injection e with e
      subst e
      rw [hg] at hg'
      simp only [Option.some.injEq, Obj.cells.injEq] at hg'
      exact hne hg'.2.1
theorem strB_size (l : List UInt8) : (⟨l.toArray⟩ : ByteArray).size = l.length := rfl
/-- cut so far: what is done, what has come since, what is to come -/
theorem cut_step {s : ByteArray} {f i : Nat} {P : List (List UInt8)} (hf : f ≤ i) (hi : i < s.size) (h : P ++ cutF (s.extract f i).data.toList (s.data.toList.drop i) = cutF [] s.data.toList) :
    (s[i] = 44 → (P ++ [(s.extract f i).data.toList]) ++ cutF (s.extract (i + 1) (i + 1)).data.toList (s.data.toList.drop (i + 1)) = cutF [] s.data.toList) ∧
    (s[i] ≠ 44 → P ++ cutF (s.extract f (i + 1)).data.toList (s.data.toList.drop (i + 1)) = cutF [] s.data.toList) := by
  have hl : s.data.toList.length = s.size := by simp
  have hd : s.data.toList.drop i = s[i] :: s.data.toList.drop (i + 1) := by
    rw [List.drop_eq_getElem_cons (by omega)]; rfl
  have hx : (s.extract f (i + 1)).data.toList = (s.extract f i).data.toList ++ [s[i]] := by
    rw [Lib.extract_data, Lib.extract_data, show i + 1 - f = (i - f) + 1 by omega, List.take_succ_eq_append_getElem (by rw [List.length_drop]; omega), List.getElem_drop]
    congr 2
    simp only [show f + (i - f) = i by omega]
    rfl
  rw [hd, cutF] at h
  constructor
  · intro e
    rw [e] at h
    rw [show (s.extract (i + 1) (i + 1)).data.toList = [] by rw [Lib.extract_data]; simp, List.append_assoc]
    exact h
  · intro e
    have : (s[i] == 44) = false := by
      cases hb : (s[i] == 44)
      · rfl
      · exact absurd (eq_of_beq hb) e
    rw [this] at h
    rw [hx]
    exact h
theorem cut_last {s : ByteArray} {f : Nat} {P : List (List UInt8)} (h : P ++ cutF (s.extract f s.size).data.toList (s.data.toList.drop s.size) = cutF [] s.data.toList) :
    P ++ [(s.extract f s.size).data.toList] = cutF [] s.data.toList := by
  rw [List.drop_of_length_le (by simp)] at h
  exact h
theorem cut_first (s : ByteArray) : [] ++ cutF (s.extract 0 0).data.toList (s.data.toList.drop 0) = cutF [] s.data.toList := by
  rw [Lib.extract_data]; simp
/-- the loop's law -/
def CutI (s : ByteArray) (k f : Nat) (P : List (List UInt8)) : Prop :=
  (k ≤ s.size ∧ f ≤ k ∧ P ++ cutF (s.extract f k).data.toList (s.data.toList.drop k) = cutF [] s.data.toList) ∨ (k = s.size + 1 ∧ P = cutF [] s.data.toList)
theorem CutI.len {s : ByteArray} {k f : Nat} {P : List (List UInt8)} (h : CutI s k f P) : P.length ≤ s.size + 1 := by
  have hl : s.data.toList.length = s.size := by simp
  have h2 := cutF_len s.data.toList []
  rcases h with ⟨_, _, h⟩ | ⟨_, rfl⟩
  · have := congrArg List.length h
    rw [List.length_append] at this
    omega
  · omega
set_option maxHeartbeats 1000000 in
set_option maxRecDepth 100000 in
theorem l01Cut_any (s : ByteArray) (hs : s.size ≤ 1048576) (w : World) :
    Calls Tryd.prog 86 #[.string s, .int .u8 44] w fun e w' => ∃ u, e = .returned u ∧ w'.ownsRow w.heap.size 9 1 u (cutF [] s.data.toList).length ((cutF [] s.data.toList).map strV) ∧ Below w.heap.size w w' := by
  obtain ⟨i0, hi0, hz0, hz1, hz2⟩ := info_parts info_str
  have HOwn := World.ownsRow_lit (base := w.heap.size) (e := 9) (size := 1) w #[] 0 (Nat.le_refl _) (by unfold maxLen; omega) rfl
  have HB0 : Below w.heap.size w (w.alloc (.cells #[] 9)) := (Below.refl _ _).alloc (Nat.le_refl _) _
  go_enter Tryd.func86, Tryd.ntmps86
  go_wp2_with fail
  go_loopw [5, 6, 7] (fun o f i wr => ∃ (k f0 : Nat) (P : List (List UInt8)), f = .int .i64 f0 ∧ i = .int .i64 k ∧ Below w.heap.size w wr ∧ wr.ownsRow w.heap.size 9 1 o P.length (P.map strV) ∧ Hid (CutI s k f0 P)) (fun _ _ i _ => s.size + 1 - (intOf i).toNat)
  case atStart => exact ⟨0, 0, [], rfl, rfl, HB0, HOwn, Lib.hid (.inl ⟨Nat.zero_le _, Nat.le_refl _, cut_first s⟩)⟩
  case round =>
    clear HOwn HB0
    obtain ⟨k, f0, P, rfl, rfl, hbel, hown, hrel⟩ := hrel
    have hPl := hrel.out.len
    by_cases hle : k ≤ s.size
    · have hf0 : f0 ≤ k := by
        rcases hrel.out with ⟨_, h, _⟩ | ⟨h, _⟩
        · exact h
        · omega
      have HC : Hid (P ++ cutF (s.extract f0 k).data.toList (s.data.toList.drop k) = cutF [] s.data.toList) := by
        rcases hrel.out with ⟨_, _, h⟩ | ⟨h, _⟩
        · exact h
        · omega
      have hle2 : (k : Int) ≤ (s.size : Int) := by omega
      by_cases hlt : k < s.size
      · have hne : ((k : Int) == (s.size : Int)) = false := by
          cases hb : ((k : Int) == (s.size : Int))
          · rfl
          · have := eq_of_beq hb; omega
        by_cases hc : s[k] = 44
        · have hcb : (((s[k].toNat : Nat) : Int) == 44) = true := by rw [hc]; rfl
          have HN := Lib.hid ((cut_step hf0 hlt HC.out).1 hc)
          clear hc HC hrel
          go_wp2_with (first
            | (at_builtin; refine wpList_append_own _ rfl _ _ 70 rfl w.heap.size 9 i0 _ 1 16 Tryd.underlying70 hi0 hz0 hz1 hz2 rfl (by omega) _ P.length (P.map strV) rfl (by exact World.ownsRow.alloc (by exact hown) _) ⟨wr.heap.size, 0, none⟩ 1 1 [.string (s.extract f0 k)] rfl rfl (by exact World.news_of_block (cs := #[.string (s.extract f0 k)]) (t := 9) (fr := (0, 0)) (heap_alloc_new wr _)) (by simp [Value.oneCell']) (by unfold maxLen; omega) (by omega) (by have := hbel.size; simp; omega) ?_; intro v' w1 hown1 hgrow _))
          go_roundw
          case rel => exact ⟨k + 1, k + 1, P ++ [(s.extract f0 k).data.toList], by go_num, by go_num, below_grown_h (Below.alloc hbel hbel.size _) hgrow (by have := hbel.size; simp; omega) (fun j e => (hown.lt j e).1), by rw [List.map_append, List.length_append]; exact hown1, Lib.hid (.inl ⟨by omega, Nat.le_refl _, HN.out⟩)⟩
          case measure => simp [intOf]; omega
        · have hcb : (((s[k].toNat : Nat) : Int) == 44) = false := by
            cases hb : (((s[k].toNat : Nat) : Int) == 44)
            · rfl
            · exact absurd (UInt8.toNat_inj.1 (by have := eq_of_beq hb; show s[k].toNat = 44; omega)) hc
          have HN := Lib.hid ((cut_step hf0 hlt HC.out).2 hc)
          clear hc HC hrel
          go_wp2_with fail
          go_roundw
          case rel => exact ⟨k + 1, f0, P, rfl, by go_num, hbel, hown, Lib.hid (.inl ⟨by omega, by omega, HN.out⟩)⟩
          case measure => simp [intOf]; omega
      · obtain rfl : k = s.size := by omega
        have HN := Lib.hid (cut_last HC.out)
        clear HC hrel
        go_wp2_with (first
          | (at_builtin; refine wpList_append_own _ rfl _ _ 70 rfl w.heap.size 9 i0 _ 1 16 Tryd.underlying70 hi0 hz0 hz1 hz2 rfl (by omega) _ P.length (P.map strV) rfl (by exact World.ownsRow.alloc (by exact hown) _) ⟨wr.heap.size, 0, none⟩ 1 1 [.string (s.extract f0 s.size)] rfl rfl (by exact World.news_of_block (cs := #[.string (s.extract f0 s.size)]) (t := 9) (fr := (0, 0)) (heap_alloc_new wr _)) (by simp [Value.oneCell']) (by unfold maxLen; omega) (by omega) (by have := hbel.size; simp; omega) ?_; intro v' w1 hown1 hgrow _))
        go_roundw
        case rel => exact ⟨s.size + 1, s.size + 1, P ++ [(s.extract f0 s.size).data.toList], by go_num, by go_num, below_grown_h (Below.alloc hbel hbel.size _) hgrow (by have := hbel.size; simp; omega) (fun j e => (hown.lt j e).1), by rw [List.map_append, List.length_append]; exact hown1, Lib.hid (.inr ⟨rfl, HN.out⟩)⟩
        case measure => simp [intOf]
    · obtain rfl : P = cutF [] s.data.toList := by
        rcases hrel.out with ⟨h, _⟩ | ⟨_, h⟩
        · omega
        · exact h
      have hle2 : ¬ (k : Int) ≤ (s.size : Int) := by omega
      clear hrel
      go_wp2_with fail
      go_ret
      exact ⟨_, rfl, hown, hbel⟩
end Go.Proofs.YtedpbidphajngaaDoor
