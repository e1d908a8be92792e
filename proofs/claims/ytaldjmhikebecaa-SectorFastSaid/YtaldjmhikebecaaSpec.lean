/- The plain functions of layers 1 to 3 (numbers as bytes, sums, frames): no program. -/
namespace Go.Proofs.Ytaldjmhikebecaa

/-- A number's n bytes, the least first. -/
def leN (v : Nat) : Nat → List UInt8
  | 0 => []
  | n + 1 => leN v n ++ [UInt8.ofNat (v / 256 ^ n)]
theorem leN_length (v n : Nat) : (leN v n).length = n := by
  induction n with
  | zero => rfl
  | succ n ih => simp [leN, ih]
theorem byte_at (v k : Nat) : ((UInt8.ofNat (v / 256 ^ k)).toNat : Int) = (v : Int) / 2 ^ (8 * k) % 256 := by
  rw [show (UInt8.ofNat (v / 256 ^ k)).toNat = v / 256 ^ k % 256 from by simp [UInt8.toNat_ofNat'], show (256 : Nat) ^ k = 2 ^ (8 * k) from by rw [Nat.pow_mul]]
  simp
theorem byte_mod (v k : Nat) : ((UInt8.ofNat (v / 256 ^ k)).toNat : Int) = ((v / 256 ^ k : Nat) : Int) % 256 := by
  rw [show (UInt8.ofNat (v / 256 ^ k)).toNat = v / 256 ^ k % 256 from by simp [UInt8.toNat_ofNat']]
  simp
theorem div_step (v k : Nat) : v / 256 ^ k / 256 = v / 256 ^ (k + 1) := by rw [Nat.div_div_eq_div_mul, ← Nat.pow_succ]
/-- The number that bytes are, the least first. -/
def unle : List UInt8 → Nat
  | [] => 0
  | c :: l => c.toNat + 256 * unle l
theorem unle_snoc (l : List UInt8) (c : UInt8) : unle (l ++ [c]) = unle l + c.toNat * 256 ^ l.length := by
  induction l with
  | nil => simp [unle]
  | cons x l ih => simp only [List.cons_append, unle, ih, List.length_cons, Nat.pow_succ, Nat.mul_add]; rw [show 256 * (c.toNat * 256 ^ l.length) = c.toNat * (256 ^ l.length * 256) from by rw [Nat.mul_comm 256, Nat.mul_assoc]]; omega
theorem unle_lt (l : List UInt8) : unle l < 256 ^ l.length := by
  induction l with
  | nil => simp [unle]
  | cons x l ih => have := x.toNat_lt; simp only [unle, List.length_cons, Nat.pow_succ]; omega
/-- Numbers' bytes, one behind the other. -/
def leAll (n : Nat) : List Nat → List UInt8
  | [] => []
  | v :: vs => leN v n ++ leAll n vs
theorem leAll_snoc (n : Nat) (vs : List Nat) (v : Nat) : leAll n (vs ++ [v]) = leAll n vs ++ leN v n := by
  induction vs with
  | nil => simp [leAll]
  | cons u vs ih => simp [leAll, ih]
theorem leAll_length (n : Nat) (vs : List Nat) : (leAll n vs).length = vs.length * n := by
  induction vs with
  | nil => simp [leAll]
  | cons u vs ih => simp [leAll, ih, leN_length, Nat.add_mul]; omega
theorem leAll_take (n : Nat) (vs : List Nat) (k : Nat) (h : k < vs.length) : leAll n (vs.take (k + 1)) = leAll n (vs.take k) ++ leN vs[k] n := by
  rw [List.take_succ_eq_append_getElem h, leAll_snoc]
/-- Numbers of n bytes each, from a place on. -/
def getAll (l : List UInt8) (at_ n : Nat) : Nat → List Nat
  | 0 => []
  | k + 1 => getAll l at_ n k ++ [unle ((l.drop (at_ + k * n)).take n)]
theorem getAll_length (l : List UInt8) (at_ n k : Nat) : (getAll l at_ n k).length = k := by
  induction k with
  | zero => rfl
  | succ k ih => simp [getAll, ih]
end Go.Proofs.Ytaldjmhikebecaa
