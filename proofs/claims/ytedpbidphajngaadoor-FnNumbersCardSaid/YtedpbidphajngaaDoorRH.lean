/- Hexadecimal numerals read back: the program and the model. -/
import Derived.Test.YtedpbidphajngaaDoorHP
import Derived.Test.YtedpbidphajngaaDoorA3
import Derived.Test.YtedpbidphajngaaDoorCT
import Derived.Deep.LoopGhost
namespace Go.Proofs.YtedpbidphajngaaDoor
open Go.RowKit
set_option linter.unusedVariables false
set_option linter.unusedSimpArgs false
attribute [local go_sem] run_f32bits run_f32frombits run_f64bits run_f64frombits lo_value lo_enter

theorem or_digit (m d : Nat) (hm : m < 268435456) (hd : d < 16) : bits .or .i64 ((m : Int) * 16) (d : Int) = ((16 * m + d : Nat) : Int) := by
  have e : (m : Int) * 16 = ((16 * m : Nat) : Int) := by omega
  have hx : 16 * m ||| d = 16 * m + d := by
    rw [show 16 * m = 2 ^ 4 * m from rfl, ← Nat.two_pow_add_eq_or_of_lt (by omega) m]
  rw [e]
  show IntKind.i64.wrap ((BitVec.ofInt 64 ((16 * m : Nat) : Int) ||| BitVec.ofInt 64 (d : Int)).toNat : Int) = _
  rw [BitVec.toNat_or, hx_ofInt _ (by omega), hx_ofInt _ (by omega), hx, IntKind.wrap_i64]
  omega
theorem drop_byte (s : ByteArray) (k : Nat) (h : k < s.size) : s.data.toList.drop k = s[k] :: s.data.toList.drop (k + 1) := by
  rw [List.drop_eq_getElem_cons (by simpa using h)]; rfl
theorem list_len (s : ByteArray) : s.data.toList.length = s.size := by simp
theorem hex_end {s : ByteArray} {m k : Nat} (hk : k = s.size) (h : hexN 0 s.data.toList = hexN m (s.data.toList.drop k)) : hexN 0 s.data.toList = some m := by
  rw [h, List.drop_of_length_le (by rw [list_len]; omega)]; rfl
theorem hexB_eq {s : ByteArray} {m : Nat} (h8 : s.size = 8) (h : hexN 0 s.data.toList = some m) : ((hexB (bitsN (av .f32 m))).toList == s.toList) = canonB m := by
  rw [ByteArray.toList_eq, ByteArray.toList_eq]
  exact canon_hex (by rw [list_len]; exact h8) h
theorem canon_bits (m : Nat) : (bitsA (av .f32 m) != (m : Int)) = !canonB m := by
  rw [bitsA_nat]
  unfold canonB
  rw [Bool.eq_iff_iff]
  simp only [bne_iff_ne, Bool.not_eq_true', beq_eq_false_iff_ne]
  omega
def WhenH (b : Bool) (x y : Nat) : Prop := b = true → x = y
def hexI (c : UInt8) : Int := match hexV c with | some d => (d : Int) | none => -1
theorem hexI_none {c : UInt8} (h : hexV c = none) : hexI c = -1 := by unfold hexI; rw [h]
theorem hexI_some {c : UInt8} {d : Nat} (h : hexV c = some d) : hexI c = (d : Int) := by unfold hexI; rw [h]
theorem hexIndex_any (c : UInt8) (w : World) :
    Calls Tryd.prog 91 #[.string ⟨#[48, 49, 50, 51, 52, 53, 54, 55, 56, 57, 97, 98, 99, 100, 101, 102]⟩, .int .u8 (c.toNat : Int)] w fun e w' => e = .returned (.int .i64 (hexI c)) ∧ w = w' := by
  refine (Tryd.strings_IndexByte _ _ w).mono fun e w' ⟨he, hw⟩ => ⟨?_, hw.symm⟩
  rw [he]
  have e1 : ((c.toNat : Int).toNat.toUInt8) = c := by simp
  rw [e1]
  exact congrArg (fun z => Ending.returned (Value.int .i64 z)) (index_hex c)
set_option maxHeartbeats 1000000 in
set_option maxRecDepth 100000 in
theorem fromHex_any (s : ByteArray) (w : World) :
    Calls Tryd.prog 60 #[.string s] w fun e w' => (∃ x, e = .returned (.tuple #[.float .f32 x, .bool (okH s.data.toList)]) ∧ WhenH (okH s.data.toList) x (valH s.data.toList)) ∧ w = w' := by
  by_cases h8 : s.size = 8
  rotate_left
  · have HO : Hid (okH s.data.toList = false) := okH_len (by rw [list_len]; exact h8)
    have h8' : ((s.size : Int) != 8) = true := by
      rw [bne_iff_ne]; omega
    generalize okH s.data.toList = V at *
    obtain rfl : V = false := HO.out
    go_enter Tryd.func60, Tryd.ntmps60
    go_wp2_with fail
    go_ret2
    exact ⟨⟨_, rfl, fun h => by cases h⟩, rfl⟩
  · have h8' : ((s.size : Int) != 8) = false := by rw [h8]; rfl
    have H1 : Hid (hexN 0 s.data.toList = none → okH s.data.toList = false) := fun h => okH_none h
    have H2 : Hid (∀ m, hexN 0 s.data.toList = some m → okH s.data.toList = canonB m ∧ valH s.data.toList = m ∧ ((hexB (bitsN (av .f32 m))).toList == s.toList) = canonB m ∧ m < 4294967296) := fun m h =>
      ⟨(okH_some (by rw [list_len]; exact h8) h).1, (okH_some (by rw [list_len]; exact h8) h).2, hexB_eq h8 h, (hexL_of (by rw [list_len]; exact h8) h).2⟩
    have H8 := Lib.hid h8
    generalize okH s.data.toList = V at *
    generalize valH s.data.toList = N at *
    clear h8
    go_enter Tryd.func60, Tryd.ntmps60
    go_wp2_with fail
    go_loopw [4, 5] (fun b i wr => wr = w ∧ ∃ k m : Nat, k ≤ 8 ∧ i = .int .i64 k ∧ b = .int .i64 m ∧ Hid (m < 16 ^ k) ∧ Hid (hexN 0 s.data.toList = hexN m (s.data.toList.drop k))) (fun _ i _ => 8 - (intOf i).toNat)
    case atStart => exact ⟨rfl, 0, 0, by omega, rfl, rfl, Lib.hid (by decide), rfl⟩
    case round =>
      obtain ⟨rfl, k, m, hk, rfl, rfl, hm, hh⟩ := hrel
      by_cases hlt : k < 8
      · have hks : k < s.size := by have := H8.out; omega
        have hm2 : m < 268435456 := by
          have h2 : (16 : Nat) ^ k ≤ 16 ^ 7 := Nat.pow_le_pow_right (by omega) (by omega)
          have h3 := hm.out
          have h4 : (16 : Nat) ^ 7 = 268435456 := by decide
          omega
        have HD := Lib.hid (drop_byte s k hks)
        have hix := fun wq => hexIndex_any s[k] wq
        cases hv : hexV s[k] with
        | none =>
          have HV := Lib.hid hv
          rw [hexI_none hv] at hix
          obtain rfl : V = false := H1.out (by rw [hh.out, HD.out, hexN_none hv])
          clear hv
          go_wp2_with fail
          refine (hix _).mono ?_
          rintro e w' ⟨rfl, rfl⟩
          go_wp2_with fail
          go_ret2
          exact ⟨⟨_, rfl, fun h => by cases h⟩, rfl⟩
        | some d =>
          have HV := Lib.hid hv
          have hdl := hexV_lt hv
          rw [hexI_some hv] at hix
          have hor := or_digit m d hm2 hdl
          have HN : Hid (hexN 0 s.data.toList = hexN (16 * m + d) (s.data.toList.drop (k + 1))) := by show _ = _; rw [hh.out, HD.out, hexN_some hv]
          clear hv
          go_wp2_with fail
          refine (hix _).mono ?_
          rintro e w' ⟨rfl, rfl⟩
          go_wp2_with fail
          go_roundw
          case rel => exact ⟨by first | trivial | rfl, k + 1, 16 * m + d, by omega, by go_num, rfl, Lib.hid (by rw [Nat.pow_succ]; have := hm.out; omega), HN⟩
          case measure => simp [intOf]; omega
      · obtain rfl : k = 8 := by omega
        have hE := hex_end (by rw [H8.out]) hh.out
        obtain ⟨e1, e2, e3, e4⟩ := H2.out m hE
        rw [← e1] at e3
        have HE := Lib.hid e2
        clear hE e1 e2
        go_wp2_with fail
        refine (implFromBits_in (m : Int) (by omega) (by omega) _).mono ?_
        rintro e w' ⟨rfl, rfl⟩
        go_wp2_with fail
        refine (implhexOf_any m e4 _).mono ?_
        rintro e w' ⟨rfl, rfl⟩
        go_wp2_with fail
        go_ret2
        exact ⟨⟨_, rfl, fun h => HE.out.symm⟩, rfl⟩
theorem l01From_any (n : Nat) (h : n < 4294967296) (w : World) :
    Calls Tryd.prog 67 #[.int .i64 (n : Int)] w fun e w' => e = .returned (.float .f32 n) ∧ w = w' := by
  have hm := Lib.hid (show ((n : Int) % 4294967296) = n by omega)
  go_enter Tryd.func67, Tryd.ntmps67
  go_wp2
  go_ret
  exact ⟨by simp [hm.out], rfl⟩
theorem pow7 {m k : Nat} (hk : k < 8) (h : m < 16 ^ k) : m < 268435456 := by
  have h2 : (16 : Nat) ^ k ≤ 16 ^ 7 := Nat.pow_le_pow_right (by omega) (by omega)
  have h4 : (16 : Nat) ^ 7 = 268435456 := by decide
  omega
set_option maxHeartbeats 1000000 in
set_option maxRecDepth 100000 in
theorem l01Digits_any (s : ByteArray) (h8 : s.size = 8) (w : World) :
    Calls Tryd.prog 92 #[.string s] w fun e w' => (∃ x, e = .returned (.tuple #[.float .f32 x, .bool (okH s.data.toList)]) ∧ WhenH (okH s.data.toList) x (valH s.data.toList)) ∧ w = w' := by
  have H1 : Hid (hexN 0 s.data.toList = none → okH s.data.toList = false) := fun h => okH_none h
  have H2 : Hid (∀ m, hexN 0 s.data.toList = some m → okH s.data.toList = canonB m ∧ valH s.data.toList = m ∧ m < 4294967296) := fun m h =>
    ⟨(okH_some (by rw [list_len]; exact h8) h).1, (okH_some (by rw [list_len]; exact h8) h).2, (hexL_of (by rw [list_len]; exact h8) h).2⟩
  have H8 := Lib.hid h8
  have hss : (s.size : Int) = 8 := by rw [h8]; rfl
  generalize okH s.data.toList = V at *
  generalize valH s.data.toList = N at *
  clear h8
  go_enter Tryd.func92, Tryd.ntmps92
  go_wp2_with fail
  go_loopw [4, 5] (fun b i wr => wr = w ∧ ∃ k m : Nat, k ≤ 8 ∧ i = .int .i64 k ∧ b = .int .i64 m ∧ Hid (m < 16 ^ k) ∧ Hid (hexN 0 s.data.toList = hexN m (s.data.toList.drop k))) (fun _ i _ => 8 - (intOf i).toNat)
  case atStart => exact ⟨rfl, 0, 0, by omega, rfl, rfl, Lib.hid (by decide), rfl⟩
  case round =>
    obtain ⟨rfl, k, m, hk, rfl, rfl, hm, hh⟩ := hrel
    by_cases hlt : k < 8
    · have hks : k < s.size := by have := H8.out; omega
      have hm2 := pow7 hlt hm.out
      have HD := Lib.hid (drop_byte s k hks)
      have hc := s[k].toNat_lt
      have hc2 : ((s[k].toNat : Nat) : Int) ≤ 255 := by omega
      rcases (show s[k].toNat < 48 ∨ (48 ≤ s[k].toNat ∧ s[k].toNat ≤ 57) ∨ (57 < s[k].toNat ∧ s[k].toNat < 97) ∨ (97 ≤ s[k].toNat ∧ s[k].toNat ≤ 102) ∨ 102 < s[k].toNat by omega) with h1 | ⟨h1, h2⟩ | ⟨h1, h2⟩ | ⟨h1, h2⟩ | h1
      · have g1 : ¬ (48 : Int) ≤ (s[k].toNat : Int) := by omega
        have g2 : ¬ (97 : Int) ≤ (s[k].toNat : Int) := by omega
        have HN : Hid (hexN 0 s.data.toList = none) := by show _ = _; rw [hh.out, HD.out, hexN_none (hexV_no (by omega) (by omega))]
        obtain rfl : V = false := H1.out HN.out
        clear HN h1
        go_wp2_with fail
        go_ret2
        exact ⟨⟨_, rfl, fun h => by cases h⟩, rfl⟩
      · have g1 : (48 : Int) ≤ (s[k].toNat : Int) := by omega
        have g2 : (s[k].toNat : Int) ≤ 57 := by omega
        have g3 : ¬ (97 : Int) ≤ (s[k].toNat : Int) := by omega
        have HN : Hid (hexN 0 s.data.toList = hexN (16 * m + (s[k].toNat - 48)) (s.data.toList.drop (k + 1))) := by show _ = _; rw [hh.out, HD.out, hexN_some (hexV_dec (by omega) (by omega))]
        have hdl : s[k].toNat - 48 < 16 := by omega
        go_wp2_with fail
        go_roundw
        case rel => exact ⟨by first | trivial | rfl, k + 1, 16 * m + (s[k].toNat - 48), by omega, by go_num, (by first | rfl | (congr 1; omega) | (simp; omega)), Lib.hid (by rw [Nat.pow_succ]; have := hm.out; omega), HN⟩
        case measure => simp [intOf]; omega
      · have g1 : (48 : Int) ≤ (s[k].toNat : Int) := by omega
        have g2 : ¬ (s[k].toNat : Int) ≤ 57 := by omega
        have g3 : ¬ (97 : Int) ≤ (s[k].toNat : Int) := by omega
        have HN : Hid (hexN 0 s.data.toList = none) := by show _ = _; rw [hh.out, HD.out, hexN_none (hexV_no (by omega) (by omega))]
        obtain rfl : V = false := H1.out HN.out
        clear HN h1
        go_wp2_with fail
        go_ret2
        exact ⟨⟨_, rfl, fun h => by cases h⟩, rfl⟩
      · have g1 : (48 : Int) ≤ (s[k].toNat : Int) := by omega
        have g2 : ¬ (s[k].toNat : Int) ≤ 57 := by omega
        have g3 : (97 : Int) ≤ (s[k].toNat : Int) := by omega
        have g4 : (s[k].toNat : Int) ≤ 102 := by omega
        have HN : Hid (hexN 0 s.data.toList = hexN (16 * m + (s[k].toNat - 87)) (s.data.toList.drop (k + 1))) := by show _ = _; rw [hh.out, HD.out, hexN_some (hexV_let (by omega) (by omega))]
        have hdl : s[k].toNat - 87 < 16 := by omega
        go_wp2_with fail
        go_roundw
        case rel => exact ⟨by first | trivial | rfl, k + 1, 16 * m + (s[k].toNat - 87), by omega, by go_num, (by first | rfl | (congr 1; omega) | (simp; omega)), Lib.hid (by rw [Nat.pow_succ]; have := hm.out; omega), HN⟩
        case measure => simp [intOf]; omega
      · have g1 : (48 : Int) ≤ (s[k].toNat : Int) := by omega
        have g2 : ¬ (s[k].toNat : Int) ≤ 57 := by omega
        have g3 : (97 : Int) ≤ (s[k].toNat : Int) := by omega
        have g4 : ¬ (s[k].toNat : Int) ≤ 102 := by omega
        have HN : Hid (hexN 0 s.data.toList = none) := by show _ = _; rw [hh.out, HD.out, hexN_none (hexV_no (by omega) (by omega))]
        obtain rfl : V = false := H1.out HN.out
        clear HN h1
        go_wp2_with fail
        go_ret2
        exact ⟨⟨_, rfl, fun h => by cases h⟩, rfl⟩
    · obtain rfl : k = 8 := by omega
      have hE := hex_end (by rw [H8.out]) hh.out
      obtain ⟨e1, e2, e4⟩ := H2.out m hE
      have HE := Lib.hid e2
      have hcb := canon_bits m
      rw [← e1] at hcb
      clear hE e1 e2
      cases V
      · go_wp2_with fail
        refine (l01From_any m e4 _).mono ?_
        rintro e w' ⟨rfl, rfl⟩
        go_wp2_with fail
        refine (specl01Bits_any m e4 _).mono ?_
        rintro e w' ⟨rfl, rfl⟩
        go_wp2_with fail
        go_ret2
        exact ⟨⟨_, rfl, fun h => by cases h⟩, rfl⟩
      · go_wp2_with fail
        refine (l01From_any m e4 _).mono ?_
        rintro e w' ⟨rfl, rfl⟩
        go_wp2_with fail
        refine (specl01Bits_any m e4 _).mono ?_
        rintro e w' ⟨rfl, rfl⟩
        go_wp2_with fail
        go_ret2
        exact ⟨⟨_, rfl, fun h => HE.out.symm⟩, rfl⟩
end Go.Proofs.YtedpbidphajngaaDoor
