/- Sums (CRC-32C) on plain numbers: bit by bit, and by halves of bytes. No program. -/
import Derived.Test.YtaldjmhikebecaaGreatLib
namespace Go.Proofs.YtaldjmhikebecaaGreat

def crcStep (s : Nat) : Nat := if s % 2 = 1 then s / 2 ^^^ 2197175160 else s / 2
def crcSteps : Nat → Nat → Nat
  | 0, s => s
  | k + 1, s => crcStep (crcSteps k s)
def crcByte (s c : Nat) : Nat := crcSteps 8 (s ^^^ c)
/-- The state behind bytes. -/
def crcFold (s : Nat) (l : List UInt8) : Nat := l.foldl (fun s c => crcByte s c.toNat) s
def crcMore (s : Nat) (l : List UInt8) : Nat := 4294967295 - crcFold (4294967295 - s) l
def crcSum (l : List UInt8) : Nat := crcMore 0 l
def crcTab (i : Nat) : Nat := [0, 274646895, 549293790, 820201905, 1098587580, 1361435347, 1640403810, 1905808397, 2197175160, 2460548119, 2722870694, 2987750089, 3280807620, 3553878443, 3811616794, 4084100981].getD i 0

theorem xor_lt {a b : Nat} (ha : a < 4294967296) (hb : b < 4294967296) : a ^^^ b < 4294967296 := Nat.xor_lt_two_pow (n := 32) ha hb
theorem crcStep_lt (s : Nat) (h : s < 4294967296) : crcStep s < 4294967296 := by
  unfold crcStep
  split
  · exact xor_lt (by omega) (by omega)
  · omega
theorem crcSteps_lt (k s : Nat) (h : s < 4294967296) : crcSteps k s < 4294967296 := by
  induction k with
  | zero => exact h
  | succ k ih => exact crcStep_lt _ ih
theorem crcByte_lt (s c : Nat) (h : s < 4294967296) (hc : c < 256) : crcByte s c < 4294967296 := crcSteps_lt _ _ (xor_lt h (by omega))
theorem crcFold_lt (l : List UInt8) : ∀ (s : Nat), s < 4294967296 → crcFold s l < 4294967296 := by
  induction l with
  | nil => exact fun s h => h
  | cons c l ih => exact fun s h => ih _ (crcByte_lt s _ h (UInt8.toNat_lt c))
theorem crcMore_lt (s : Nat) (l : List UInt8) : crcMore s l < 4294967296 := by unfold crcMore; omega
theorem crcSum_lt (l : List UInt8) : crcSum l < 4294967296 := crcMore_lt _ _
theorem crcFold_snoc (s : Nat) (l : List UInt8) (c : UInt8) : crcFold s (l ++ [c]) = crcByte (crcFold s l) c.toNat := by simp [crcFold]
theorem crcFold_take (s : Nat) (l : List UInt8) (k : Nat) (h : k < l.length) : crcFold s (l.take (k + 1)) = crcByte (crcFold s (l.take k)) l[k].toNat := by
  rw [List.take_succ_eq_append_getElem h, crcFold_snoc]

theorem not32 (s : Nat) (h : s < 4294967296) : 4294967295 ^^^ s = 4294967295 - s := by
  apply Nat.eq_of_testBit_eq
  intro i
  rw [show 4294967295 - s = 2 ^ 32 - (s + 1) from by omega, Nat.testBit_two_pow_sub_succ (by omega), Nat.testBit_xor, show (4294967295 : Nat) = 2 ^ 32 - 1 from rfl, Nat.testBit_two_pow_sub_one]
  by_cases hi : i < 32
  · simp [hi]
  · rw [Nat.testBit_lt_two_pow (Nat.lt_of_lt_of_le (show s < 2 ^ 32 from h) (Nat.pow_le_pow_right (by omega) (show 32 ≤ i from by omega)))]
    simp [hi]
/-- A step parts over a sum of bits. -/
theorem crcStep_xor (a b : Nat) : crcStep (a ^^^ b) = crcStep a ^^^ crcStep b := by
  unfold crcStep
  have hd : (a ^^^ b) / 2 = a / 2 ^^^ b / 2 := by
    have := Nat.xor_div_two_pow (a := a) (b := b) (n := 1)
    simpa using this
  have hm : (a ^^^ b) % 2 = 1 ↔ ¬ (a % 2 = 1 ↔ b % 2 = 1) := Nat.xor_mod_two_eq_one
  rw [hd]
  by_cases ha : a % 2 = 1 <;> by_cases hb : b % 2 = 1 <;> simp only [hm, ha, hb, if_true, if_false, not_true, not_false_iff, iff_true, iff_false]
  · rw [show a / 2 ^^^ 2197175160 ^^^ (b / 2 ^^^ 2197175160) = (a / 2 ^^^ b / 2) ^^^ (2197175160 ^^^ 2197175160) from by ac_rfl, Nat.xor_self, Nat.xor_zero]
  · ac_rfl
  · ac_rfl
theorem crcStep_double (q : Nat) : crcStep (2 * q) = q := by
  unfold crcStep
  rw [if_neg (by omega)]
  omega
theorem crcSteps_xor (k a b : Nat) : crcSteps k (a ^^^ b) = crcSteps k a ^^^ crcSteps k b := by
  induction k with
  | zero => rfl
  | succ k ih => simp only [crcSteps, ih, crcStep_xor]
theorem crcSteps_pow (k q : Nat) : crcSteps k (2 ^ k * q) = q := by
  induction k generalizing q with
  | zero => simp [crcSteps]
  | succ k ih => rw [crcSteps, Nat.pow_succ, Nat.mul_assoc, ih, crcStep_double]
theorem crcSteps_add (j k s : Nat) : crcSteps (j + k) s = crcSteps j (crcSteps k s) := by
  induction j with
  | zero => simp [crcSteps]
  | succ j ih => rw [show j + 1 + k = (j + k) + 1 from by omega, crcSteps, ih, crcSteps]
theorem split16 (s : Nat) : s = 16 * (s / 16) ^^^ s % 16 := by
  apply Nat.eq_of_testBit_eq
  intro i
  rw [Nat.testBit_xor, show 16 * (s / 16) = 2 ^ 4 * (s / 2 ^ 4) from rfl, show s % 16 = s % 2 ^ 4 from rfl, Nat.testBit_mod_two_pow, Nat.testBit_two_pow_mul, Nat.testBit_div_two_pow]
  by_cases h : i < 4
  · simp [h, show ¬ (4 ≤ i) from by omega]
  · simp [h, show 4 ≤ i from by omega, show i - 4 + 4 = i from by omega]
theorem crcTab_ok : ∀ i : Fin 16, crcSteps 4 i.val = crcTab i.val := by decide
theorem crcTab_lt : ∀ i : Fin 16, crcTab i.val < 4294967296 := by decide
/-- Four steps at once. -/
theorem crc_half (s : Nat) : s / 16 ^^^ crcTab (s % 16) = crcSteps 4 s := by
  have h := crcTab_ok ⟨s % 16, Nat.mod_lt _ (by omega)⟩
  rw [← show crcSteps 4 (s % 16) = crcTab (s % 16) from h]
  conv => rhs; rw [split16 s]
  rw [crcSteps_xor, show 16 * (s / 16) = 2 ^ 4 * (s / 16) from rfl, crcSteps_pow]
theorem crc_byte (s c : Nat) : crcByte s c = crcSteps 4 (crcSteps 4 (s ^^^ c)) := by
  unfold crcByte
  rw [← crcSteps_add]

/-! ### Frames -/
def sealB (l : List UInt8) : List UInt8 := l ++ leN (crcSum l) 4
theorem sealB_length (l : List UInt8) : (sealB l).length = l.length + 4 := by simp [sealB, leN_length]
/-- A frame's bytes. -/
def frameB (kind : UInt8) (serial : Nat) (body : List UInt8) : List UInt8 := sealB ([80, 76, kind, 0] ++ leN serial 8 ++ leN body.length 4 ++ body)
theorem frameB_length (kind : UInt8) (serial : Nat) (body : List UInt8) : (frameB kind serial body).length = body.length + 20 := by simp [frameB, sealB_length, leN_length]; omega
inductive FrameR where
  | err (code : Int)
  | ok (kind : UInt8) (serial : Nat) (body : List UInt8)
/-- The frame with which bytes begin. -/
def readF (x : List UInt8) : FrameR :=
  if x.length < 16 then .err 10
  else if ¬ (x.getD 0 0 = 80 ∧ x.getD 1 0 = 76 ∧ x.getD 3 0 = 0 ∧ unle ((x.drop 12).take 4) ≤ 16777216) then .err 30
  else if x.length < unle ((x.drop 12).take 4) + 20 then .err 10
  else if ¬ sealB (x.take (unle ((x.drop 12).take 4) + 16)) = x.take (unle ((x.drop 12).take 4) + 20) then .err 31
  else .ok (x.getD 2 0) (unle ((x.drop 4).take 8)) ((x.drop 16).take (unle ((x.drop 12).take 4)))
end Go.Proofs.YtaldjmhikebecaaGreat
