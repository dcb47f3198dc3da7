/- Texts cut at commas: plain, no program. -/
import Derived.Lib.SplitLaws
import Derived.Lib.IndexMore
namespace Go.Proofs.YtedpbidphajngaaDoor
open Go

/-- the parts between commas; cur: what has come since the last one -/
def cutF (cur : List UInt8) : List UInt8 → List (List UInt8)
  | [] => [cur]
  | c :: l => bif c == 44 then cur :: cutF [] l else cutF (cur ++ [c]) l
theorem cutF_pos : ∀ (l cur : List UInt8), 0 < (cutF cur l).length
  | [], cur => by simp [cutF]
  | c :: l, cur => by
    rw [cutF]
    cases (c == 44)
    · exact cutF_pos l _
    · simp
theorem cutF_len : ∀ (l cur : List UInt8), (cutF cur l).length ≤ l.length + 1
  | [], cur => by simp [cutF]
  | c :: l, cur => by
    rw [cutF]
    cases (c == 44)
    · have := cutF_len l (cur ++ [c]); simp only [cond_false, List.length_cons]; omega
    · have := cutF_len l []; simp only [cond_true, List.length_cons]; omega
theorem cutF_mem : ∀ (l cur : List UInt8), ∀ x ∈ cutF cur l, x.length ≤ cur.length + l.length
  | [], cur, x, h => by simp [cutF] at h; subst h; simp
  | c :: l, cur, x, h => by
    rw [cutF] at h
    cases hc : (c == 44)
    · rw [hc] at h
      have := cutF_mem l (cur ++ [c]) x h
      simp only [List.length_append, List.length_cons, List.length_nil] at this ⊢
      omega
    · rw [hc] at h
      rcases List.mem_cons.1 h with h | h
      · subst h; simp only [List.length_cons]; omega
      · have := cutF_mem l [] x h
        simp only [List.length_cons, List.length_nil] at this ⊢
        omega
theorem cutF_full : ∀ (l cur : List UInt8), (∀ x ∈ cutF cur l, 0 < x.length) → 2 * (cutF cur l).length ≤ cur.length + l.length + 1
  | [], cur, h => by
    have := h cur (by simp [cutF])
    simp [cutF]; omega
  | c :: l, cur, h => by
    rw [cutF] at h ⊢
    cases hc : (c == 44)
    · rw [hc] at h
      have := cutF_full l (cur ++ [c]) h
      simp only [cond_false, List.length_append, List.length_cons, List.length_nil] at this ⊢
      omega
    · rw [hc] at h
      have h1 := h cur (by simp)
      have := cutF_full l [] (fun x hx => h x (by simp [hx]))
      simp only [cond_true, List.length_cons, List.length_nil] at this ⊢
      omega
theorem cutF_none : ∀ (l cur : List UInt8), (44 : UInt8) ∉ l → cutF cur l = [cur ++ l]
  | [], cur, _ => by simp [cutF]
  | c :: l, cur, h => by
    have hc : (c == 44) = false := by
      cases hb : (c == 44)
      · rfl
      · exact absurd (by rw [eq_of_beq hb]; simp) h
    rw [cutF, hc]
    show cutF (cur ++ [c]) l = _
    rw [cutF_none l _ (fun e => h (List.mem_cons_of_mem _ e))]
    simp
theorem cutF_hit : ∀ (a r cur : List UInt8), (44 : UInt8) ∉ a → cutF cur (a ++ 44 :: r) = (cur ++ a) :: cutF [] r
  | [], r, cur, _ => by simp [cutF]
  | c :: a, r, cur, h => by
    have hc : (c == 44) = false := by
      cases hb : (c == 44)
      · rfl
      · exact absurd (by rw [eq_of_beq hb]; simp) h
    rw [List.cons_append, cutF, hc]
    show cutF (cur ++ [c]) (a ++ 44 :: r) = _
    rw [cutF_hit a r _ (fun e => h (List.mem_cons_of_mem _ e))]
    simp
theorem index_cut (l : List UInt8) : (Lib.index l [44] = -1 ∧ (44 : UInt8) ∉ l) ∨ ∃ a r, Lib.index l [44] = (a.length : Nat) ∧ l = a ++ 44 :: r ∧ (44 : UInt8) ∉ a := by
  induction l with
  | nil => left; exact ⟨rfl, by simp⟩
  | cons c l ih =>
    by_cases hc : c = 44
    · subst hc
      right
      exact ⟨[], l, by simp [Lib.index, List.isPrefixOf], rfl, by simp⟩
    · have hp : ([44] : List UInt8).isPrefixOf (c :: l) = false := by
        simp [List.isPrefixOf]; exact fun e => hc e.symm
      rcases ih with ⟨h1, h2⟩ | ⟨a, r, h1, h2, h3⟩
      · left
        refine ⟨by rw [Lib.index, hp, h1]; rfl, ?_⟩
        intro e
        rcases List.mem_cons.1 e with e | e
        · exact hc e.symm
        · exact h2 e
      · right
        refine ⟨c :: a, r, ?_, by rw [h2]; rfl, ?_⟩
        · have : ¬ ((a.length : Int) == -1) = true := by simp
          rw [Lib.index, hp, h1]
          simp only [Bool.false_eq_true, if_false, if_neg this, List.length_cons]
          omega
        · intro e
          rcases List.mem_cons.1 e with e | e
          · exact hc e.symm
          · exact h3 e
theorem splitK_cut : ∀ (k : Nat) (l : List UInt8), Lib.count l [44] = k → Lib.splitK [44] 0 k l = cutF [] l
  | 0, l, hk => by
    rcases index_cut l with ⟨h1, h2⟩ | ⟨a, r, h1, h2, h3⟩
    · rw [cutF_none l [] h2]; rfl
    · have := Lib.count_hit (sub := [44]) (by simp) h1
      omega
  | k + 1, l, hk => by
    rcases index_cut l with ⟨h1, h2⟩ | ⟨a, r, h1, h2, h3⟩
    · rw [Lib.count_miss h1] at hk; omega
    · have hc := Lib.count_hit (sub := [44]) (by simp) h1
      have hn : ¬ (Lib.index l [44] == -1) = true := by rw [h1]; simp
      have e : (Lib.index l [44]).toNat = a.length := by omega
      rw [Lib.splitK, if_neg hn, e]
      rw [h2] at hc ⊢
      have e3 : (a ++ 44 :: r).drop (a.length + ([44] : List UInt8).length) = r := by
        rw [show a.length + ([44] : List UInt8).length = a.length + 1 from rfl, ← List.drop_drop, List.drop_left]; rfl
      rw [e3] at hc ⊢
      rw [cutF_hit a r [] h3, splitK_cut k r (by rw [h2] at hk; omega)]
      simp
theorem splitB_cut (s : ByteArray) : (Lib.splitB ⟨#[44]⟩ 0 (Lib.countB s ⟨#[44]⟩) s).map (·.data.toList) = cutF [] s.data.toList := by
  rw [Lib.splitB_data]
  exact splitK_cut _ _ rfl
/-- the parts as texts -/
def partsB (s : ByteArray) : List ByteArray := (cutF [] s.data.toList).map fun l => ⟨l.toArray⟩
theorem splitB_parts (s : ByteArray) : Lib.splitB ⟨#[44]⟩ 0 (Lib.countB s ⟨#[44]⟩) s = partsB s := by
  unfold partsB
  rw [← splitB_cut, List.map_map]
  conv => lhs; rw [← List.map_id (Lib.splitB _ _ _ _)]
  rfl
theorem countB_parts (s : ByteArray) : Lib.countB s ⟨#[44]⟩ + 1 = (cutF [] s.data.toList).length := by
  rw [← splitB_cut, List.length_map, Lib.splitB_all _ (by decide) 0 _ s rfl]
/-- the list that a text without 'none' tells: its parts, none of none -/
def divL (l : List UInt8) : List (List UInt8) := bif l == [110, 111, 110, 101] then [] else cutF [] l
end Go.Proofs.YtedpbidphajngaaDoor
