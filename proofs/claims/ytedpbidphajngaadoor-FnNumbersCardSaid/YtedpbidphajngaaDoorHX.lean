/- Hexadecimal digits of single floats. -/
import Derived.Test.YtedpbidphajngaaDoorA2
import Derived.Deep.AppendLies
import Derived.Deep.Onto
import Derived.Laws.OwnMore
import Derived.Laws.IdiomStrings
namespace Go.Proofs.YtedpbidphajngaaDoor
open Go.RowKit
set_option linter.unusedVariables false
set_option linter.unusedSimpArgs false

def hexD (d : Nat) : UInt8 := if d < 10 then (48 + d).toUInt8 else (87 + d).toUInt8
def hexL (n k : Nat) : List UInt8 := (List.range k).map fun j => hexD (n / 16 ^ (7 - j) % 16)
theorem hexL_succ (n k : Nat) : hexL n (k + 1) = hexL n k ++ [hexD (n / 16 ^ (7 - k) % 16)] := by unfold hexL; rw [List.range_succ, List.map_append]; rfl
theorem hexL_length (n k : Nat) : (hexL n k).length = k := by simp [hexL]
def hexB (n : Nat) : ByteArray := ⟨(hexL n 8).toArray⟩
/-- the bits as a natural -/
def bitsN : Option Nat → Nat
  | none => 2143289344
  | some b => b
theorem bitsA_nat (X : Option Nat) : bitsA X = (bitsN X : Int) := by cases X <;> rfl
theorem bitsN_lt {x : Nat} (hx : x < 4294967296) : bitsN (av .f32 x) < 4294967296 := by
  cases h : av .f32 x with
  | none => simp [bitsN]
  | some b => have e := (av_some h).1; show b < _; omega
theorem hx_ofInt (a : Nat) (ha : a < 9223372036854775808) : (BitVec.ofInt 64 (a : Int)).toNat = a := by
  rw [BitVec.ofInt_natCast, BitVec.toNat_ofNat]; exact Nat.mod_eq_of_lt (by omega)
theorem hx_and (a b : Nat) (ha : a < 9223372036854775808) (hb : b < 9223372036854775808) : bits .and .i64 (a : Int) (b : Int) = ((a &&& b : Nat) : Int) := by
  have hx : a &&& b < 2 ^ 63 := Nat.and_lt_two_pow _ (by omega)
  show IntKind.i64.wrap ((BitVec.ofInt 64 (a : Int) &&& BitVec.ofInt 64 (b : Int)).toNat : Int) = _
  rw [BitVec.toNat_and, hx_ofInt a ha, hx_ofInt b hb, IntKind.wrap_i64]
  omega
theorem hx_digit (n k : Nat) (hn : n < 4294967296) (hk : k < 8) : bits .and .i64 ((n : Int) / 2 ^ (28 - 4 * k)) 15 = ((n / 16 ^ (7 - k) % 16 : Nat) : Int) := by
  have e : (2 : Nat) ^ (28 - 4 * k) = 16 ^ (7 - k) := by
    rw [show 28 - 4 * k = 4 * (7 - k) by omega, Nat.pow_mul]
  have e2 : (n : Int) / 2 ^ (28 - 4 * k) = ((n / 16 ^ (7 - k) : Nat) : Int) := by rw [← e]; simp
  have hle : n / 16 ^ (7 - k) ≤ n := Nat.div_le_self _ _
  rw [e2, show (15 : Int) = ((15 : Nat) : Int) from rfl, hx_and _ _ (by omega) (by omega)]
  rw [show (15 : Nat) = 2 ^ 4 - 1 from rfl, Nat.and_two_pow_sub_one_eq_mod]
def hexC : ByteArray := ⟨#[48, 49, 50, 51, 52, 53, 54, 55, 56, 57, 97, 98, 99, 100, 101, 102]⟩
theorem lt16 {d : Nat} (h : d < 16) : d = 0 ∨ d = 1 ∨ d = 2 ∨ d = 3 ∨ d = 4 ∨ d = 5 ∨ d = 6 ∨ d = 7 ∨ d = 8 ∨ d = 9 ∨ d = 10 ∨ d = 11 ∨ d = 12 ∨ d = 13 ∨ d = 14 ∨ d = 15 := by omega
theorem hex_slice (d : Nat) (h : d < 16) (W : World) : Sem.run Tryd.prog (Instr.slice 9 (.string ⟨#[48, 49, 50, 51, 52, 53, 54, 55, 56, 57, 97, 98, 99, 100, 101, 102]⟩) (some (.int .i64 (d : Int))) (some (.int .i64 ((d : Int) + 1))) none) W = .ok (.string ⟨#[hexD d]⟩) W := by
  rcases lt16 h with rfl | rfl | rfl | rfl | rfl | rfl | rfl | rfl | rfl | rfl | rfl | rfl | rfl | rfl | rfl | rfl <;> kernel_rfl
theorem hexL_push (n k d : Nat) (h : hexL n (k + 1) = hexL n k ++ [hexD d]) : (⟨(hexL n k).toArray⟩ : ByteArray) ++ ⟨#[hexD d]⟩ = ⟨(hexL n (k + 1)).toArray⟩ := by
  apply ByteArray.ext
  rw [ByteArray.data_append, h]
  simp
set_option maxHeartbeats 1000000 in
set_option maxRecDepth 100000 in
theorem implhexOf_any (x : Nat) (hx : x < 4294967296) (w : World) :
    Calls Tryd.prog 73 #[.float .f32 x] w fun e w' => e = .returned (.string (hexB (bitsN (av .f32 x)))) ∧ w = w' := by
  have hc := fun wq => implBitsOf_any x hx wq
  have hl := bitsN_lt hx
  rw [bitsA_nat] at hc
  generalize bitsN (av .f32 x) = n at *
  go_enter Tryd.func73, Tryd.ntmps73
  go_wp2_with fail
  refine (hc _).mono ?_
  rintro e w' ⟨rfl, rfl⟩
  go_wp2_with fail
  go_loop [3, 5] (fun o s => ∃ k : Nat, k ≤ 8 ∧ s = .int .i64 (28 - 4 * (k : Int)) ∧ o = .string ⟨(hexL n k).toArray⟩) (fun _ s => ((intOf s) + 4).toNat)
  case atStart => exact ⟨0, Nat.zero_le _, rfl, rfl⟩
  case round =>
    obtain ⟨k, hk, rfl, rfl⟩ := hrel
    by_cases hlt : k < 8
    · have hd := hx_digit n k hl hlt
      have HS := Lib.hid (hexL_succ n k)
      have hd16 : n / 16 ^ (7 - k) % 16 < 16 := Nat.mod_lt _ (by omega)
      generalize n / 16 ^ (7 - k) % 16 = d at *
      have hsl := hex_slice d hd16
      have hln : (hexL n k).length ≤ 8 := by rw [hexL_length]; exact hk
      go_wp2_with fail
      go_round
      case rel => exact ⟨k + 1, by omega, by rw [show (28 : Int) - 4 * (k : Int) - 4 = 28 - 4 * ((k + 1 : Nat) : Int) by omega], by rw [hexL_push n k d HS.out]⟩
      case measure => simp [intOf]; omega
    · obtain rfl : k = 8 := by omega
      go_wp2_with fail
      go_ret
      exact ⟨rfl, rfl⟩
theorem info_u8 : (Tryd.prog.info? 5).map (fun i => (i.zero, i.size, i.bytes)) = some (some (.int .u8 0), 1, 1) := by kernel_rfl
def byteV (b : UInt8) : Value := .int .u8 (b.toNat : Int)
theorem below_grown_h {B : Nat} {a w w' : World} {row : Option Nat} (h : Below B a w) (hg : w.grownBy w' row) (hB : B ≤ w.heap.size) (hr : ∀ k, row = some k → B ≤ k) : Below B a w' :=
  ⟨hg.os.trans h.os, hg.tape.trans h.tape, hg.output.trans h.output, Nat.le_trans h.size hg.size, fun k hk => (hg.block k (Nat.lt_of_lt_of_le hk hB) (fun e => by have := hr k e.symm; omega)).trans (h.block k hk)⟩
/-- a text made of bytes that the call owns -/
theorem own_text {w : World} {base n : Nat} {u : Value} {l : List UInt8} (h : w.ownsRow base 5 1 u n (l.map byteV)) (hn : l ≠ []) (W : World) (hW : W = w) :
    Sem.run Tryd.prog (convert 46 9 u) W = .ok (.string ⟨l.toArray⟩) W := by
  subst hW
  have hl : l.length = n := by have := h.1; simpa using this
  rcases h.2 with ⟨_, h0⟩ | ⟨g, c, cur, rfl, _⟩
  · exact absurd (List.eq_nil_of_length_eq_zero (by omega)) hn
  · subst hl
    exact run_convert_bytes_back W _ _ 5 ⟨g, 0, none⟩ c l Tryd.underlying46 Tryd.underlying5 Tryd.underlying9 (fun j hj => by
      rw [show (⟨g, 0, none⟩ : Addr).add j = ⟨g, j, none⟩ by unfold Addr.add; split <;> simp_all, h.cellAt j (by omega), List.getElem?_map, List.getElem?_eq_getElem hj]; rfl)
end Go.Proofs.YtedpbidphajngaaDoor
