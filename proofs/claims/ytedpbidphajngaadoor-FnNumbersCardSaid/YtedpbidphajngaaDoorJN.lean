/- Texts joined by commas, none of none. -/
import Derived.Test.YtedpbidphajngaaDoorHX
import Derived.Test.YtedpbidphajngaaDoorN
import Derived.Test.YtedpbidphajngaaDoorShelf
import Derived.Lib.Join
namespace Go.Proofs.YtedpbidphajngaaDoor
open Go.RowKit
set_option linter.unusedVariables false
set_option linter.unusedSimpArgs false
attribute [local go_sem] lo_value lo_enter

def strV (l : List UInt8) : Value := .string ⟨l.toArray⟩
def textL (xs : List (List UInt8)) : List UInt8 := bif xs.isEmpty then [110, 111, 110, 101] else Lib.join xs [44]
theorem join_one (x sep : List UInt8) : Lib.join [x] sep = x := by simp [Lib.join, List.intercalate]
theorem join_two (x y : List UInt8) (l : List (List UInt8)) (sep : List UInt8) : Lib.join (x :: y :: l) sep = x ++ sep ++ Lib.join (y :: l) sep := by simp [Lib.join, List.intercalate, List.intersperse]
theorem join_snoc (xs : List (List UInt8)) (x sep : List UInt8) (h : xs ≠ []) : Lib.join (xs ++ [x]) sep = Lib.join xs sep ++ (sep ++ x) := by
  induction xs with
  | nil => exact absurd rfl h
  | cons a l ih =>
    cases l with
    | nil => rw [List.cons_append, List.nil_append, join_two, join_one, join_one, List.append_assoc]
    | cons b l => rw [List.cons_append, List.cons_append, join_two, join_two, ← List.cons_append, ih (by simp)]; simp [List.append_assoc]
theorem join_length (xs : List (List UInt8)) (m : Nat) (h : ∀ x ∈ xs, x.length ≤ m) : (Lib.join xs [44]).length ≤ xs.length * (m + 1) := by
  induction xs with
  | nil => simp [Lib.join, List.intercalate]
  | cons a l ih =>
    have ha := h a (by simp)
    cases l with
    | nil => rw [join_one]; simp; omega
    | cons b l =>
      have h2 := ih (fun x hx => h x (List.mem_cons_of_mem _ hx))
      rw [join_two]
      simp only [List.length_append, List.length_cons, List.length_nil] at h2 ⊢
      rw [Nat.add_mul (l.length + 1) 1 (m + 1)]
      omega
theorem str_append (a b : List UInt8) : (⟨a.toArray⟩ : ByteArray) ++ ⟨b.toArray⟩ = ⟨(a ++ b).toArray⟩ := by
  apply ByteArray.ext
  rw [ByteArray.data_append]
  simp
theorem info_str : (Tryd.prog.info? 9).map (fun i => (i.zero, i.size, i.bytes)) = some (some (.string ⟨#[]⟩), 1, 16) := by kernel_rfl
set_option maxRecDepth 100000 in
theorem joined_any (base n : Nat) (u : Value) (L : List (List UInt8)) (w : World) (h : w.ownsRow base 9 1 u n (L.map strV)) (hn : n ≤ 1048576) (hlen : (Lib.join L [44]).length ≤ 140737488355328) :
    Calls Tryd.prog 74 #[u] w fun e w' => e = .returned (strV (textL L)) ∧ Below w.heap.size w w' := by
  have hl : L.length = n := by have := h.1; simpa using this
  by_cases h0 : n = 0
  · subst h0
    obtain rfl : L = [] := List.eq_nil_of_length_eq_zero hl
    obtain ⟨A, c, rfl⟩ : ∃ A c, u = .slice A 0 c := by
      rcases h.2 with ⟨rfl, _⟩ | ⟨g, c, cur, rfl, _⟩
      · exact ⟨_, _, rfl⟩
      · exact ⟨_, _, rfl⟩
    clear h hl hlen
    go_enter Tryd.func74, Tryd.ntmps74
    go_wp2_with fail
    go_ret
    exact ⟨rfl, Below.refl _ _⟩
  · rcases h.2 with ⟨_, h1⟩ | ⟨g, c, cur, rfl, _, _, hnc, _⟩
    · exact absurd h1 h0
    · have hcon := fun wq (hw : wq = w) => Tryd.strings_Join g 0 c (L.map fun l => ⟨l.toArray⟩) ⟨#[44]⟩ wq (fun j x hx => by
        subst hw
        rw [List.getElem?_map] at hx
        obtain ⟨l, hl1, rfl⟩ := Option.map_eq_some_iff.1 hx
        have hj : j < L.length := (List.getElem?_eq_some_iff.1 hl1).1
        rw [Nat.zero_add, h.cellAt j (by omega), List.getElem?_map, hl1]; rfl) (by subst hw; exact (h.lt g rfl).2) (by rw [List.length_map]; omega) (by rw [List.length_map]; omega) (by
        rw [List.map_map, show ((fun x : ByteArray => x.data.toList) ∘ fun l : List UInt8 => (⟨l.toArray⟩ : ByteArray)) = id from rfl, List.map_id]; exact hlen)
      have hT : textL L = Lib.join L [44] := by
        unfold textL
        cases L with
        | nil => simp at hl; omega
        | cons a l => rfl
      have HT := Lib.hid hT
      rw [List.map_map, show ((fun x : ByteArray => x.data.toList) ∘ fun l : List UInt8 => (⟨l.toArray⟩ : ByteArray)) = id from rfl, List.map_id, List.length_map, hl] at hcon
      have hn0 : ((n : Int) == 0) = false := by simp; omega
      clear hT h hl hlen
      go_enter Tryd.func74, Tryd.ntmps74
      go_wp2_with fail
      refine (hcon _ rfl).mono ?_
      rintro e w' ⟨rfl, hb⟩
      go_wp2_with fail
      go_ret
      exact ⟨by rw [HT.out]; rfl, hb⟩
/-- the digits of numbers -/
def hexes (L : List Nat) : List (List UInt8) := L.map fun x => hexL (bitsN (av .f32 x)) 8
theorem hexes_len (L : List Nat) : ∀ x ∈ hexes L, x.length ≤ 8 := by
  intro x hx
  obtain ⟨y, _, rfl⟩ := List.mem_map.1 hx
  rw [hexL_length]; exact Nat.le_refl _
theorem hexes_join (L : List Nat) (h : L.length ≤ 256) : (Lib.join (hexes L) [44]).length ≤ 2304 := by
  have := join_length (hexes L) 8 (hexes_len L)
  rw [show (hexes L).length = L.length by simp [hexes]] at this
  have : L.length * (8 + 1) ≤ 256 * 9 := Nat.mul_le_mul_right 9 h
  omega
def numTextV (L : List Nat) : Bool := decide (L.length ≤ 256)
def numTextS (L : List Nat) : ByteArray := bif numTextV L then ⟨(textL (hexes L)).toArray⟩ else ⟨#[]⟩
theorem take_hexes {L : List Nat} {k x : Nat} (hs : L.take (k + 1) = L.take k ++ [x]) : hexes (L.take (k + 1)) = hexes (L.take k) ++ [hexL (bitsN (av .f32 x)) 8] := by rw [hs]; simp [hexes]
set_option maxHeartbeats 1000000 in
set_option maxRecDepth 100000 in
theorem implNumbersText_any (A : Option Addr) (n c : Nat) (L : List Nat) (w : World) (h : FS w A n L) (hn : n ≤ 1048576) (bL : ∀ x ∈ L, x < 4294967296) :
    Calls Tryd.prog 40 #[.slice A n c] w fun e w' => e = .returned (.tuple #[.string (numTextS L), .bool (numTextV L)]) ∧ Below w.heap.size w w' := by
  have hL := h.1
  by_cases hm : n ≤ 256
  rotate_left
  · have HV : Hid (numTextV L = false) := by show _ = _; unfold numTextV; rw [hL]; exact decide_eq_false hm
    have HS : Hid (numTextS L = ⟨#[]⟩) := by show _ = _; rw [numTextS, HV.out]; rfl
    have hd : decide ((n : Int) ≤ 256) = false := decide_eq_false (by omega)
    clear hL
    go_enter Tryd.func40, Tryd.ntmps40
    go_wp2_with fail
    refine (areNumbers_any n _).mono ?_
    rintro e wx ⟨rfl, rfl⟩
    go_wp2_with fail
    go_ret2
    exact ⟨by rw [HS.out, HV.out]; rfl, Below.refl _ _⟩
  have HV : Hid (numTextV L = true) := by show _ = _; unfold numTextV; rw [hL]; exact decide_eq_true hm
  have HS : Hid (numTextS L = ⟨(textL (hexes L)).toArray⟩) := by show _ = _; rw [numTextS, HV.out]; rfl
  have hd : decide ((n : Int) ≤ 256) = true := decide_eq_true (by omega)
  obtain ⟨i0, hi0, hz0, hz1, hz2⟩ := info_parts info_str
  have HL := Lib.hid hL
  clear hL
  go_enter Tryd.func40, Tryd.ntmps40
  go_wp2_with fail
  refine (areNumbers_any n _).mono ?_
  rintro e wx ⟨rfl, rfl⟩
  go_wp2_with fail
  go_loopw [4, 13] (fun o i wr => ∃ k : Nat, k ≤ n ∧ i = .int .i64 k ∧ Below w.heap.size w wr ∧ wr.ownsRow w.heap.size 9 1 o k ((hexes (L.take k)).map strV)) (fun _ i _ => n - (intOf i).toNat)
  case atStart => exact ⟨0, Nat.zero_le _, rfl, Below.refl _ _, World.ownsRow_nil _ _ _ _⟩
  case round =>
    obtain ⟨k, hk, rfl, hbel, hown⟩ := hrel
    by_cases hlt : k < n
    · obtain ⟨b, off, x, rfl, hb, hc, hx, hs⟩ := (h.below hbel).at_ hlt
      have hlt2 : (k : Int) < (n : Int) := by omega
      have hxb := bL x (List.mem_of_getElem? hx)
      have HSX := Lib.hid (take_hexes hs)
      clear hx hs h
      go_wp2_with fail
      refine (implhexOf_any x hxb _).mono ?_
      rintro e w2 ⟨rfl, rfl⟩
      unfold hexB
      go_wp2_with (first
        | (at_builtin; refine wpList_append_own _ rfl _ _ 70 rfl w.heap.size 9 i0 _ 1 16 Tryd.underlying70 hi0 hz0 hz1 hz2 rfl (by omega) _ k ((hexes (L.take k)).map strV) rfl (by exact World.ownsRow.alloc (by exact hown) _) ⟨wr.heap.size, 0, none⟩ 1 1 [strV (hexL (bitsN (av .f32 x)) 8)] rfl rfl (by exact World.news_of_block (cs := #[strV (hexL (bitsN (av .f32 x)) 8)]) (t := 9) (fr := (0, 0)) (heap_alloc_new wr _)) (by simp [Value.oneCell', strV]) (by unfold maxLen; omega) (by omega) (by have := hbel.size; simp; omega) ?_; intro v' w1 hown1 hgrow _))
      go_roundw
      case rel => exact ⟨k + 1, by omega, by go_num, below_grown_h (Below.alloc hbel hbel.size _) hgrow (by have := hbel.size; simp; omega) (fun j e => (hown.lt j e).1), by rw [HSX.out, List.map_append]; exact hown1⟩
      case measure => simp [intOf]; omega
    · obtain rfl : k = n := by omega
      have hj := fun wq (e : wq = wr) => joined_any w.heap.size k _ (hexes (L.take k)) wq (by subst e; exact hown) hn (by have := hexes_join (L.take k) (by rw [List.length_take]; omega); omega)
      rw [show L.take k = L by rw [← HL.out, List.take_length]] at hj
      go_wp2_with fail
      refine (hj _ rfl).mono ?_
      rintro e w2 ⟨rfl, hb⟩
      unfold strV
      go_wp2_with fail
      go_ret2
      exact ⟨by rw [HS.out, HV.out]; rfl, hbel.trans (hb.mono hbel.size)⟩
end Go.Proofs.YtedpbidphajngaaDoor
