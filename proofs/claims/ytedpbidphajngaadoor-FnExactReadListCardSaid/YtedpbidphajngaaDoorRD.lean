/- Numerals read back: the program and the model. -/
import Derived.Test.YtedpbidphajngaaDoorRP
import Derived.Test.YtedpbidphajngaaDoorLX
namespace Go.Proofs.YtedpbidphajngaaDoor
open Go.RowKit
set_option linter.unusedVariables false
set_option linter.unusedSimpArgs false
attribute [local go_sem] lo_value lo_enter

/-- the variable holds an error -/
def ErrW (name : String) (w : World) : Prop := ∃ tp p, w.var? Tryd.prog name = some #[.iface tp p]
theorem ErrW.below {name : String} {w w' : World} (h : ErrW name w) (hb : Below w.heap.size w w') : ErrW name w' := by
  obtain ⟨tp, p, h⟩ := h
  exact ⟨tp, p, var_below h hb⟩
theorem str_eq {l : List UInt8} {s : ByteArray} (h : l = s.data.toList) : (⟨l.toArray⟩ : ByteArray) = s := by
  apply ByteArray.ext
  rw [h]
theorem str_ne {l : List UInt8} {s : ByteArray} (h : l ≠ s.data.toList) : ((⟨l.toArray⟩ : ByteArray).toList == s.toList) = false := by
  rw [ByteArray.toList_eq, ByteArray.toList_eq]
  cases hb : (l == s.data.toList)
  · rfl
  · exact absurd (eq_of_beq hb) h
/-- what ParseInt gives -/
inductive ParseEnd (s : ByteArray) : Value → Prop
  | ok (v : Int) (h : Lib.parseIntB 64 s.data.toList = .ok v) : ParseEnd s (.tuple #[.int .i64 v, .nilIface])
  | err (v : Int) (t : TypeId) (p : Value) (h : okD s.data.toList = false) : ParseEnd s (.tuple #[.int .i64 v, .iface t p])
theorem parseInt_any (s : ByteArray) (hs : s.size ≤ 1048576) (w : World) (h1 : ErrW "strconv.ErrSyntax" w) (h2 : ErrW "strconv.ErrRange" w) :
    Calls Tryd.prog 48 #[.string s, .int .i64 10, .int .i64 64] w fun e w' => ∃ u, e = .returned u ∧ ParseEnd s u ∧ Below w.heap.size w w' := by
  cases hp : Lib.parseIntB 64 s.data.toList
  case ok v =>
    refine (Tryd.strconv_ParseInt_10_at64_ok s (by omega) v hp w).mono ?_
    rintro e w' ⟨rfl, hw⟩
    refine ⟨_, rfl, .ok v hp, ?_⟩
    rcases hw with rfl | ⟨t, rfl⟩
    · exact Below.refl _ _
    · exact Joins.below_bytesWorld _ _ _ _ (Nat.le_refl _)
  case range =>
    obtain ⟨tp, p, hv⟩ := h2
    refine (Tryd.strconv_ParseInt_10_at64_range_var s (by omega) hp tp p w hv).mono ?_
    rintro e w' ⟨N, rfl, _, _, hb⟩
    refine ⟨_, rfl, .err _ _ _ ?_, hb⟩
    cases ho : okD s.data.toList
    · rfl
    · rw [okD_parse ho] at hp; cases hp
  · obtain ⟨tp, p, hv⟩ := h1
    refine (Any.strconv_ParseInt_10_at64_syntax_var Tryd.laysC174 s (by omega) hp tp p w hv).mono ?_
    rintro e w' ⟨N, rfl, _, _, hb⟩
    refine ⟨_, rfl, .err _ _ _ ?_, hb⟩
    cases ho : okD s.data.toList
    · rfl
    · rw [okD_parse ho] at hp; cases hp
set_option maxHeartbeats 1000000 in
set_option maxRecDepth 100000 in
theorem implReadDecimal_any (s : ByteArray) (hs : s.size ≤ 1048576) (w : World) (ht : TabW w) (h1 : ErrW "strconv.ErrSyntax" w) (h2 : ErrW "strconv.ErrRange" w) :
    Calls Tryd.prog 11 #[.string s] w fun e w' => e = .returned (.tuple #[.int .i64 (valD s.data.toList), .bool (okD s.data.toList)]) ∧ Below w.heap.size w w' := by
  go_enter Tryd.func11, Tryd.ntmps11
  go_wp2_with fail
  refine (parseInt_any s hs _ h1 h2).mono ?_
  rintro e w1 ⟨u, rfl, hu, hb⟩
  cases hu with
  | err v t p ho =>
    have HO := Lib.hid ho
    have HV : Hid (valD s.data.toList = 0) := by show _ = _; rw [valD, ho]; rfl
    clear ho
    go_wp2_with fail
    go_ret2
    exact ⟨by rw [HO.out, HV.out]; rfl, hb⟩
  | ok v hp =>
    cases hi : inR v (-1000000000000000) 1000000000000000
    · have HO : Hid (okD s.data.toList = false) := by
        show _ = _
        cases ho : okD s.data.toList
        · rfl
        · have h3 := okD_parse ho
          rw [h3] at hp
          obtain ⟨a, b, _⟩ := okD_parts ho
          cases hp
          rw [inR_true a b] at hi
          exact hi
      have HV : Hid (valD s.data.toList = 0) := by show _ = _; rw [valD, HO.out]; rfl
      clear hp
      go_wp2_with fail
      refine (within_any _ _ _ _).mono ?_
      rintro e w' ⟨rfl, rfl⟩
      rw [hi]
      go_wp2_with fail
      go_ret2
      exact ⟨by rw [HO.out, HV.out]; rfl, hb⟩
    · obtain ⟨ha, hc⟩ := inR_of hi
      have htr := ht.below hb
      by_cases he : Lib.itoa v = s.data.toList
      · have h4 := okD_of ha hc he
        have HO := Lib.hid h4.1
        have HV : Hid (valD s.data.toList = v) := by show _ = _; rw [valD, h4.1, h4.2]; rfl
        have hse := str_eq he
        clear hp h4 he
        go_wp2_with fail
        refine (within_any _ _ _ _).mono ?_
        rintro e w' ⟨rfl, rfl⟩
        rw [hi]
        clear hi
        go_wp2_with fail
        refine (implDecimal_any v (by omega) (by omega) _ htr).mono ?_
        rintro e w2 ⟨rfl, hb2⟩
        rw [hse]
        go_wp2_with fail
        go_ret2
        exact ⟨by rw [HO.out, HV.out]; rfl, hb.trans (hb2.mono hb.size)⟩
      · have HO : Hid (okD s.data.toList = false) := by
          show _ = _
          cases ho : okD s.data.toList
          · rfl
          · have h3 := okD_parse ho
            rw [h3] at hp
            obtain ⟨a, b, c⟩ := okD_parts ho
            cases hp
            exact absurd c he
        have HV : Hid (valD s.data.toList = 0) := by show _ = _; rw [valD, HO.out]; rfl
        have hse := str_ne he
        clear hp he
        go_wp2_with fail
        refine (within_any _ _ _ _).mono ?_
        rintro e w' ⟨rfl, rfl⟩
        rw [hi]
        clear hi
        go_wp2_with fail
        refine (implDecimal_any v (by omega) (by omega) _ htr).mono ?_
        rintro e w2 ⟨rfl, hb2⟩
        generalize (⟨(Lib.itoa v).toArray⟩ : ByteArray) = z at *
        go_wp2_with fail
        go_ret2
        exact ⟨by rw [HO.out, HV.out]; rfl, hb.trans (hb2.mono hb.size)⟩
theorem take_byte (s : ByteArray) (k : Nat) (h : k < s.size) : s.data.toList.take (k + 1) = s.data.toList.take k ++ [s[k]] := by
  rw [List.take_succ_eq_append_getElem (by simpa using h)]; rfl
theorem size_len (s : ByteArray) : s.data.toList.length = s.size := by simp
theorem okD_size {s : ByteArray} (h : okD s.data.toList = true) : 1 ≤ s.size ∧ s.size ≤ 17 := by
  obtain ⟨h0, h1, h2⟩ := okD_parts h
  have h3 := itoa_len h0 h1
  rw [h2, size_len] at h3
  refine ⟨?_, h3⟩
  have h4 : Lib.itoa (cand s.data.toList) ≠ [] := by
    by_cases hn : cand s.data.toList < 0
    · rw [itoa_neg hn]; simp
    · rw [itoa_pos hn]; exact dec_ne _
  have : s.data.toList ≠ [] := by rw [← h2]; exact h4
  have := List.length_pos_iff.2 this
  rw [size_len] at this
  exact this
set_option maxHeartbeats 2000000 in
set_option maxRecDepth 100000 in
theorem l01Value_any (s : ByteArray) (hs : s.size ≤ 1048576) (w : World) :
    Calls Tryd.prog 47 #[.string s] w fun e w' => e = .returned (.tuple #[.int .i64 (valD s.data.toList), .bool (okD s.data.toList)]) ∧ Below w.heap.size w w' := by
  by_cases hsz : 1 ≤ s.size ∧ s.size ≤ 17
  rotate_left
  · have HO : Hid (okD s.data.toList = false) := by
      show _ = _
      cases ho : okD s.data.toList
      · rfl
      · exact absurd (okD_size ho) hsz
    have HV : Hid (valD s.data.toList = 0) := by show _ = _; rw [valD, HO.out]; rfl
    by_cases h1 : s.size < 1
    · clear hsz
      go_enter Tryd.func47, Tryd.ntmps47
      go_wp2_with fail
      go_ret2
      exact ⟨by rw [HO.out, HV.out]; rfl, Below.refl _ _⟩
    · have h2 : 17 < s.size := by omega
      clear hsz
      go_enter Tryd.func47, Tryd.ntmps47
      go_wp2_with fail
      go_ret2
      exact ⟨by rw [HO.out, HV.out]; rfl, Below.refl _ _⟩
  obtain ⟨hs1, hs2⟩ := hsz
  go_enter Tryd.func47, Tryd.ntmps47
  go_wp2_with fail
  go_loop [4, 5] (fun n i => ∃ k : Nat, k ≤ s.size ∧ i = .int .i64 k ∧ n = .int .i64 ((numF 0 (s.data.toList.take k) : Nat) : Int)) (fun _ i => s.size - (intOf i).toNat)
  case atStart => exact ⟨0, Nat.zero_le _, rfl, rfl⟩
  case round =>
    obtain ⟨k, hk, rfl, rfl⟩ := hrel
    have hN := numF_lt (s.data.toList.take k) 0 0 (by decide)
    have hN2 : numF 0 (s.data.toList.take k) < 100000000000000000 := by
      have h3 : (10 : Nat) ^ (0 + (s.data.toList.take k).length) ≤ 10 ^ 17 := Nat.pow_le_pow_right (by omega) (by rw [List.length_take, size_len]; omega)
      have h4 : (10 : Nat) ^ 17 = 100000000000000000 := by decide
      omega
    clear hN
    by_cases hlt : k < s.size
    · have HS := Lib.hid (take_byte s k hlt)
      have HF := Lib.hid (numF_snoc 0 (s.data.toList.take k) s[k])
      have hc := s[k].toNat_lt
      generalize numF 0 (s.data.toList.take k) = m at *
      have hc2 : ((s[k].toNat : Nat) : Int) ≤ 255 := by omega
      by_cases h1 : 48 ≤ s[k].toNat
      · have h1' : (48 : Int) ≤ (s[k].toNat : Int) := by omega
        by_cases h2 : s[k].toNat ≤ 57
        · have h2' : (s[k].toNat : Int) ≤ 57 := by omega
          have HD : Hid (isD s[k] = true) := by show _ = _; unfold isD; rw [decide_eq_true h1, decide_eq_true h2]; rfl
          go_wp2_with fail
          go_round
          case rel => exact ⟨k + 1, by omega, by go_num, by rw [HS.out, HF.out, HD.out]; show Value.int .i64 (10 * (m : Int) + ((s[k].toNat : Int) - 48)) = .int .i64 ((10 * m + (s[k].toNat - 48) : Nat) : Int); congr 1; omega⟩
          case measure => simp [intOf]; omega
        · have h2' : ¬ (s[k].toNat : Int) ≤ 57 := by omega
          have h2'' : 57 < s[k].toNat := by omega
          have HD : Hid (isD s[k] = false) := by show _ = _; unfold isD; rw [decide_eq_false h2, Bool.and_false]
          go_wp2_with fail
          go_round
          case rel => exact ⟨k + 1, by omega, by go_num, by rw [HS.out, HF.out, HD.out]; rfl⟩
          case measure => simp [intOf]; omega
      · have h1' : ¬ (48 : Int) ≤ (s[k].toNat : Int) := by omega
        have h1'' : s[k].toNat < 48 := by omega
        have HD : Hid (isD s[k] = false) := by show _ = _; unfold isD; rw [decide_eq_false h1]; rfl
        go_wp2_with fail
        go_round
        case rel => exact ⟨k + 1, by omega, by go_num, by rw [HS.out, HF.out, HD.out]; rfl⟩
        case measure => simp [intOf]; omega
    · obtain rfl : k = s.size := by omega
      rw [show s.data.toList.take s.size = s.data.toList by rw [← size_len, List.take_length]] at hN2 ⊢
      have h0 : 0 < s.size := by omega
      have hhd : s.data.toList.head? = some s[0] := by
        rw [List.head?_eq_getElem?, List.getElem?_eq_getElem (by rw [size_len]; exact h0)]; rfl
      by_cases hm : s[0] = 45
      · have HC : Hid (cand s.data.toList = -((numF 0 s.data.toList : Nat) : Int)) := by
          show _ = _
          unfold cand minusD
          rw [hhd, hm]; rfl
        have hm2 : ((s[0].toNat : Nat) : Int) = 45 := by rw [hm]; rfl
        have he : (((s[0].toNat : Nat) : Int) == 45) = true := by rw [hm2]; rfl
        clear hhd hm hm2 hk hlt
        generalize numF 0 s.data.toList = N at *
        have hv0 : Hid (cand s.data.toList = (-(N : Int))) := HC
        cases hi : inR (-(N : Int)) (-1000000000000000) 1000000000000000
        · have HO : Hid (okD s.data.toList = false) := by
            show _ = _
            cases ho : okD s.data.toList
            · rfl
            · obtain ⟨a, b, _⟩ := okD_parts ho
              rw [hv0.out] at a b
              rw [inR_true a b] at hi
              exact hi
          have HV : Hid (valD s.data.toList = 0) := by show _ = _; rw [valD, HO.out]; rfl
          go_wp2_with fail
          refine (l00In_any _ _ _ _).mono ?_
          rintro e w' ⟨rfl, rfl⟩
          rw [hi]
          go_wp2_with fail
          go_ret2
          exact ⟨by rw [HO.out, HV.out]; rfl, Below.refl _ _⟩
        · obtain ⟨ha, hb⟩ := inR_of hi
          by_cases hq : Lib.itoa (-(N : Int)) = s.data.toList
          · have h4 := okD_of ha hb hq
            have HO := Lib.hid h4.1
            have HV : Hid (valD s.data.toList = (-(N : Int))) := by show _ = _; rw [valD, h4.1, h4.2]; rfl
            have hse := str_eq hq
            clear h4 hq HC hv0
            go_wp2_with fail
            refine (l00In_any _ _ _ _).mono ?_
            rintro e w' ⟨rfl, rfl⟩
            rw [hi]
            clear hi
            go_wp2_with fail
            refine (l01Dec_any (-(N : Int)) (by omega) (by omega) _).mono ?_
            rintro e w2 ⟨rfl, hb2⟩
            rw [hse]
            go_wp2_with fail
            go_ret2
            exact ⟨by rw [HO.out, HV.out]; rfl, hb2⟩
          · have HO : Hid (okD s.data.toList = false) := by
              show _ = _
              cases ho : okD s.data.toList
              · rfl
              · obtain ⟨a, b, c⟩ := okD_parts ho
                rw [hv0.out] at c
                exact absurd c hq
            have HV : Hid (valD s.data.toList = 0) := by show _ = _; rw [valD, HO.out]; rfl
            have hse := str_ne hq
            clear hq HC hv0
            go_wp2_with fail
            refine (l00In_any _ _ _ _).mono ?_
            rintro e w' ⟨rfl, rfl⟩
            rw [hi]
            clear hi
            go_wp2_with fail
            refine (l01Dec_any (-(N : Int)) (by omega) (by omega) _).mono ?_
            rintro e w2 ⟨rfl, hb2⟩
            generalize (⟨(Lib.itoa (-(N : Int))).toArray⟩ : ByteArray) = z at *
            go_wp2_with fail
            go_ret2
            exact ⟨by rw [HO.out, HV.out]; rfl, hb2⟩
      · have HC : Hid (cand s.data.toList = ((numF 0 s.data.toList : Nat) : Int)) := by
          show _ = _
          unfold cand minusD
          have : (s.data.toList.head? == some 45) = false := by
            rw [hhd]
            cases hb : (some s[0] == some (45 : UInt8))
            · rfl
            · exact absurd (by simpa using hb) hm
          rw [this]; rfl
        have hm2 : s[0].toNat ≠ 45 := fun h => hm (UInt8.toNat_inj.1 h)
        have he : (((s[0].toNat : Nat) : Int) == 45) = false := by
          cases hb : (((s[0].toNat : Nat) : Int) == 45)
          · rfl
          · exact absurd (by have := eq_of_beq hb; omega) hm2
        clear hhd hm hk hlt
        generalize numF 0 s.data.toList = N at *
        have hv0 : Hid (cand s.data.toList = (N : Int)) := HC
        cases hi : inR (N : Int) (-1000000000000000) 1000000000000000
        · have HO : Hid (okD s.data.toList = false) := by
            show _ = _
            cases ho : okD s.data.toList
            · rfl
            · obtain ⟨a, b, _⟩ := okD_parts ho
              rw [hv0.out] at a b
              rw [inR_true a b] at hi
              exact hi
          have HV : Hid (valD s.data.toList = 0) := by show _ = _; rw [valD, HO.out]; rfl
          go_wp2_with fail
          refine (l00In_any _ _ _ _).mono ?_
          rintro e w' ⟨rfl, rfl⟩
          rw [hi]
          go_wp2_with fail
          go_ret2
          exact ⟨by rw [HO.out, HV.out]; rfl, Below.refl _ _⟩
        · obtain ⟨ha, hb⟩ := inR_of hi
          by_cases hq : Lib.itoa (N : Int) = s.data.toList
          · have h4 := okD_of ha hb hq
            have HO := Lib.hid h4.1
            have HV : Hid (valD s.data.toList = (N : Int)) := by show _ = _; rw [valD, h4.1, h4.2]; rfl
            have hse := str_eq hq
            clear h4 hq HC hv0
            go_wp2_with fail
            refine (l00In_any _ _ _ _).mono ?_
            rintro e w' ⟨rfl, rfl⟩
            rw [hi]
            clear hi
            go_wp2_with fail
            refine (l01Dec_any (N : Int) (by omega) (by omega) _).mono ?_
            rintro e w2 ⟨rfl, hb2⟩
            rw [hse]
            go_wp2_with fail
            go_ret2
            exact ⟨by rw [HO.out, HV.out]; rfl, hb2⟩
          · have HO : Hid (okD s.data.toList = false) := by
              show _ = _
              cases ho : okD s.data.toList
              · rfl
              · obtain ⟨a, b, c⟩ := okD_parts ho
                rw [hv0.out] at c
                exact absurd c hq
            have HV : Hid (valD s.data.toList = 0) := by show _ = _; rw [valD, HO.out]; rfl
            have hse := str_ne hq
            clear hq HC hv0
            go_wp2_with fail
            refine (l00In_any _ _ _ _).mono ?_
            rintro e w' ⟨rfl, rfl⟩
            rw [hi]
            clear hi
            go_wp2_with fail
            refine (l01Dec_any (N : Int) (by omega) (by omega) _).mono ?_
            rintro e w2 ⟨rfl, hb2⟩
            generalize (⟨(Lib.itoa (N : Int)).toArray⟩ : ByteArray) = z at *
            go_wp2_with fail
            go_ret2
            exact ⟨by rw [HO.out, HV.out]; rfl, hb2⟩
theorem specReadDecimal_any (s : ByteArray) (hs : s.size ≤ 1048576) (w : World) :
    Calls Tryd.prog 10 #[.string s] w fun e w' => e = .returned (.tuple #[.int .i64 (valD s.data.toList), .bool (okD s.data.toList)]) ∧ Below w.heap.size w w' := by
  go_enter Tryd.func10, Tryd.ntmps10
  go_wp2_with fail
  refine (l01Value_any s hs _).mono ?_
  rintro e w1 ⟨rfl, hb⟩
  go_wp2_with fail
  go_ret2
  exact ⟨rfl, hb⟩
theorem lawReadDecimal (w : World) (s : ByteArray) (hw : s.size ≤ maxLen) (ht : TabW w) (h1 : ErrW "strconv.ErrSyntax" w) (h2 : ErrW "strconv.ErrRange" w) :
    Calls Tryd.prog 3 #[.string s] w fun e w' => e = .returned (.bool true) ∧ Below w.heap.size w w' := by
  unfold maxLen at hw
  by_cases hlt : s.size ≤ 1048576
  rotate_left
  · have h3 : decide ((1048576 : Int) < (s.size : Int)) = true := decide_eq_true (by omega)
    go_enter Tryd.func3, Tryd.ntmps3
    go_wp2_with fail
    go_ret
    exact ⟨rfl, Below.refl _ _⟩
  have h3 : decide ((1048576 : Int) < (s.size : Int)) = false := decide_eq_false (by omega)
  go_enter Tryd.func3, Tryd.ntmps3
  go_wp2_with fail
  refine (specReadDecimal_any s hlt _).mono ?_
  rintro e w1 ⟨rfl, hb⟩
  have ht1 := ht.below hb
  have h11 := h1.below hb
  have h21 := h2.below hb
  go_wp2_with fail
  refine (implReadDecimal_any s hlt _ ht1 h11 h21).mono ?_
  rintro e w2 ⟨rfl, hb2⟩
  go_wp2_with fail
  go_ret
  exact ⟨rfl, hb.trans (hb2.mono hb.size)⟩
end Go.Proofs.YtedpbidphajngaaDoor
