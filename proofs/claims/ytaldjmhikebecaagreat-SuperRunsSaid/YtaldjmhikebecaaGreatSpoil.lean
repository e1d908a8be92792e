/- Layer 9 (super), plain: a superblock's bytes are read as it; a byte that is spoilt is found. -/
import Derived.Test.YtaldjmhikebecaaGreatDecR
namespace Go.Proofs.YtaldjmhikebecaaGreat
open Go Go.RowKit
set_option maxRecDepth 100000

theorem xor_cancel {a b p : Nat} (h : a ^^^ p = b ^^^ p) : a = b := by
  have := congrArg (· ^^^ p) h
  simpa [Nat.xor_assoc] using this
theorem top_bit {a : Nat} (h : a < 2147483648) : (a ^^^ 2197175160) / 2147483648 = 1 := by
  have e : (a ^^^ 2197175160) / 2 ^ 31 = a / 2 ^ 31 ^^^ 2197175160 / 2 ^ 31 := Nat.xor_div_two_pow
  rw [show (2147483648 : Nat) = 2 ^ 31 from rfl, e, Nat.div_eq_of_lt (by omega)]
  decide
theorem crcStep_inj {s t : Nat} (hs : s < 4294967296) (ht : t < 4294967296) (h : crcStep s = crcStep t) : s = t := by
  unfold crcStep at h
  have h1 := top_bit (a := s / 2) (by omega)
  have h2 := top_bit (a := t / 2) (by omega)
  split at h <;> split at h
  · have := xor_cancel h
    omega
  · rw [h] at h1
    omega
  · rw [← h] at h2
    omega
  · omega
theorem crcSteps_inj : ∀ (k : Nat) {s t : Nat}, s < 4294967296 → t < 4294967296 → crcSteps k s = crcSteps k t → s = t
  | 0, _, _, _, _, h => h
  | k + 1, _, _, hs, ht, h => crcSteps_inj k hs ht (crcStep_inj (crcSteps_lt _ _ hs) (crcSteps_lt _ _ ht) h)
theorem crcByte_state {s t c : Nat} (hs : s < 4294967296) (ht : t < 4294967296) (hc : c < 256) (h : crcByte s c = crcByte t c) : s = t :=
  xor_cancel (crcSteps_inj 8 (xor_lt hs (by omega)) (xor_lt ht (by omega)) h)
theorem crcByte_byte {s c d : Nat} (hs : s < 4294967296) (hc : c < 256) (hd : d < 256) (h : crcByte s c = crcByte s d) : c = d := by
  have := crcSteps_inj 8 (xor_lt hs (by omega)) (xor_lt hs (by omega)) h
  rw [Nat.xor_comm s c, Nat.xor_comm s d] at this
  exact xor_cancel this
theorem crcFold_state (l : List UInt8) : ∀ {s t : Nat}, s < 4294967296 → t < 4294967296 → crcFold s l = crcFold t l → s = t := by
  induction l with
  | nil => exact fun _ _ h => h
  | cons c l ih =>
    intro s t hs ht h
    exact crcByte_state hs ht c.toNat_lt (ih (crcByte_lt s _ hs c.toNat_lt) (crcByte_lt t _ ht c.toNat_lt) h)
theorem crcFold_spoilt : ∀ (l : List UInt8) (k : Nat) (c : UInt8) (s : Nat) (hk : k < l.length), s < 4294967296 → c ≠ l[k] → crcFold s (l.set k c) ≠ crcFold s l
  | [], k, _, _, hk, _, _ => by simp at hk
  | a :: l, 0, c, s, _, hs, hne => by
    intro h
    have := crcFold_state l (crcByte_lt s _ hs c.toNat_lt) (crcByte_lt s _ hs a.toNat_lt) h
    exact hne (UInt8.toNat_inj.1 (crcByte_byte hs c.toNat_lt a.toNat_lt this))
  | a :: l, k + 1, c, s, hk, hs, hne => crcFold_spoilt l k c _ (by simpa using hk) (crcByte_lt s _ hs a.toNat_lt) (by simpa using hne)
theorem crcSum_spoilt (l : List UInt8) (k : Nat) (c : UInt8) (hk : k < l.length) (hne : c ≠ l[k]) : crcSum (l.set k c) ≠ crcSum l := by
  have h := crcFold_spoilt l k c 4294967295 hk (by omega) hne
  have h1 := crcFold_lt (l.set k c) 4294967295 (by omega)
  have h2 := crcFold_lt l 4294967295 (by omega)
  unfold crcSum crcMore
  simp only [Nat.sub_zero]
  omega
theorem unle_leN (v n : Nat) (h : v < 256 ^ n) : unle (leN v n) = v := by
  induction n generalizing v with
  | zero => simp at h; subst h; rfl
  | succ n ih =>
    have e : leN v n = leN (v % 256 ^ n) n := by
      clear ih h
      have : ∀ m, m ≤ n → leN v m = leN (v % 256 ^ n) m := by
        intro m
        induction m with
        | zero => intro _; rfl
        | succ m im =>
          intro hm
          simp only [leN]
          rw [im (by omega)]
          congr 2
          apply UInt8.toNat_inj.1
          simp only [UInt8.toNat_ofNat']
          have e1 : (256 : Nat) ^ n = 256 ^ m * 256 ^ (n - m) := by rw [← Nat.pow_add]; congr 1; omega
          have e2 : (256 : Nat) ∣ 256 ^ (n - m) := ⟨256 ^ (n - m - 1), by rw [← Nat.pow_succ']; congr 1; omega⟩
          rw [e1, Nat.mod_mul_right_div_self]
          exact (Nat.mod_mod_of_dvd _ e2).symm
      exact this n (Nat.le_refl _)
    simp only [leN]
    rw [unle_snoc, e, ih _ (Nat.mod_lt _ (Nat.pow_pos (by omega))), leN_length]
    have h3 : v / 256 ^ n < 256 := by
      rw [Nat.div_lt_iff_lt_mul (Nat.pow_pos (by omega)), Nat.mul_comm]
      rw [Nat.pow_succ] at h
      exact h
    have e8 : (UInt8.ofNat (v / 256 ^ n)).toNat = v / 256 ^ n := by rw [UInt8.toNat_ofNat']; exact Nat.mod_eq_of_lt h3
    rw [e8]
    have := Nat.mod_add_div v (256 ^ n)
    rw [Nat.mul_comm] at this
    exact this
theorem readF_frame (k : UInt8) (ser : Nat) (body behind : List UInt8) (hs : ser < 18446744073709551616) (hb : body.length ≤ 16777216) : readF (frameB k ser body ++ behind) = .ok k ser body := by
  obtain ⟨m, hm⟩ : ∃ m, m = [80, 76, k, 0] ++ leN ser 8 ++ leN body.length 4 ++ body := ⟨_, rfl⟩
  have hml : m.length = body.length + 16 := by rw [hm]; simp [leN_length]; omega
  have hx : frameB k ser body ++ behind = m ++ (leN (crcSum m) 4 ++ behind) := by rw [frameB, sealB, ← hm, List.append_assoc]
  have hx2 : frameB k ser body ++ behind = (m ++ leN (crcSum m) 4) ++ behind := by rw [hx, List.append_assoc]
  have h4 : ((frameB k ser body ++ behind).drop 12).take 4 = leN body.length 4 := by rw [hx, hm]; simp [leN]
  have h8 : ((frameB k ser body ++ behind).drop 4).take 8 = leN ser 8 := by rw [hx, hm]; simp [leN]
  have hn : unle (leN body.length 4) = body.length := unle_leN _ _ (by omega)
  have hlen : (frameB k ser body ++ behind).length = body.length + 20 + behind.length := by simp [frameB_length]
  unfold readF
  rw [h4, hn, h8, unle_leN _ _ (by omega), if_neg (by omega), if_neg, if_neg (by omega), if_neg]
  · congr 1
    have e : frameB k ser body ++ behind = ([80, 76, k, 0] ++ leN ser 8 ++ leN body.length 4) ++ (body ++ (leN (crcSum m) 4 ++ behind)) := by rw [hx, hm]; simp [List.append_assoc]
    rw [e, List.drop_left' (by simp [leN_length])]
    exact List.take_left' rfl
  · refine not_not_intro ?_
    have e1 : (frameB k ser body ++ behind).take (body.length + 16) = m := by rw [hx]; exact List.take_left' hml
    have e2 : (frameB k ser body ++ behind).take (body.length + 20) = m ++ leN (crcSum m) 4 := by rw [hx2]; exact List.take_left' (by simp [hml, leN_length])
    rw [e1, e2]
    rfl
  · refine not_not_intro ⟨?_, ?_, ?_, hb⟩
    all_goals rw [hx, hm]; simp
theorem body_num (e v n t b a st ch : Nat) (he : e < 18446744073709551616) (hv : v < 18446744073709551616) (hn : n < 18446744073709551616) (ht : t < 18446744073709551616) (hb : b < 18446744073709551616) (ha : a < 4294967296) (hst : st < 4294967296) (hch : ch < 4294967296) (ser : Nat) :
    supOf ser (leAll 8 [e, v, n, t, b] ++ leAll 4 [a, st, ch]) = ⟨ser, e, v, n, t, b, a, st, ch⟩ := by
  have u8 : ∀ x, x < 18446744073709551616 → unle (leN x 8) = x := fun x h => unle_leN _ _ (by omega)
  have u4 : ∀ x, x < 4294967296 → unle (leN x 4) = x := fun x h => unle_leN _ _ (by omega)
  have l8 : ∀ x, (leN x 8).length = 8 := fun x => leN_length x 8
  have l4 : ∀ x, (leN x 4).length = 4 := fun x => leN_length x 4
  have hh : ∀ k (p q r : List UInt8), p.length = k → ((p ++ (q ++ r)).drop k).take q.length = q := by
    intro k p q r h
    rw [List.drop_left' h]
    exact List.take_left' rfl
  unfold supOf numAt lowAt
  have key : ∀ (k m x : Nat) (p r : List UInt8), leAll 8 [e, v, n, t, b] ++ leAll 4 [a, st, ch] = p ++ (leN x m ++ r) → p.length = k → x < 256 ^ m → unle (((leAll 8 [e, v, n, t, b] ++ leAll 4 [a, st, ch]).drop k).take m) = x := by
    intro k m x p r h1 h2 h3
    rw [h1]
    have := hh k p (leN x m) r h2
    rw [leN_length] at this
    rw [this, unle_leN _ _ h3]
  rw [key (0 * 8) 8 e [] _ (by simp only [leAll, List.append_assoc, List.append_nil]; rfl) (by simp) (by omega)]
  rw [key (1 * 8) 8 v (leN e 8) _ (by simp only [leAll, List.append_assoc, List.append_nil]; rfl) (by simp [leN_length]) (by omega)]
  rw [key (2 * 8) 8 n (leN e 8 ++ leN v 8) _ (by simp only [leAll, List.append_assoc, List.append_nil]; rfl) (by simp [leN_length]) (by omega)]
  rw [key (3 * 8) 8 t (leN e 8 ++ (leN v 8 ++ leN n 8)) _ (by simp only [leAll, List.append_assoc, List.append_nil]; rfl) (by simp [leN_length]) (by omega)]
  rw [key (4 * 8) 8 b (leN e 8 ++ (leN v 8 ++ (leN n 8 ++ leN t 8))) _ (by simp only [leAll, List.append_assoc, List.append_nil]; rfl) (by simp [leN_length]) (by omega)]
  rw [key (40 + 0 * 4) 4 a (leN e 8 ++ (leN v 8 ++ (leN n 8 ++ (leN t 8 ++ leN b 8)))) _ (by simp only [leAll, List.append_assoc, List.append_nil]; rfl) (by simp [leN_length]) (by omega)]
  rw [key (40 + 1 * 4) 4 st (leN e 8 ++ (leN v 8 ++ (leN n 8 ++ (leN t 8 ++ (leN b 8 ++ leN a 4))))) _ (by simp only [leAll, List.append_assoc, List.append_nil]; rfl) (by simp [leN_length]) (by omega)]
  rw [key (40 + 2 * 4) 4 ch (leN e 8 ++ (leN v 8 ++ (leN n 8 ++ (leN t 8 ++ (leN b 8 ++ (leN a 4 ++ leN st 4)))))) [] (by simp only [leAll, List.append_assoc, List.append_nil]) (by simp [leN_length]) (by omega)]
theorem decode_back (s : Sup) (hf : s.fit) (h : s.ok) (behind : List UInt8) : decode (supB s ++ behind) = (s, 0) := by
  obtain ⟨e, v, n, t, b, a, st, hs, he, hv, hn, ht, hb, ha, hst⟩ := sup_of_ok s h
  have h52 := supBody_length s
  have hr : readF (supB s ++ behind) = .ok 1 s.serial (supBody s) := readF_frame 1 s.serial (supBody s) behind hf.1 (by omega)
  have hsup : supOf s.serial (supBody s) = s := by
    have e1 : supBody s = leAll 8 [e, v, n, t, b] ++ leAll 4 [a, st, s.chain] := by
      conv => lhs; rw [hs]
      exact supN_body _ _ _ _ _ _ _ _ _
    have hch := hf.2
    rw [e1, body_num e v n t b a st s.chain (by omega) (by omega) (by omega) (by omega) (by omega) (by omega) (by omega) hch]
    conv => rhs; rw [hs]
    rfl
  rw [decode_val hr h52, hsup, if_pos h]
theorem readF_kind {y : List UInt8} {k : UInt8} {ser : Nat} {b : List UInt8} (h : readF y = .ok k ser b) (hl : b.length = 52) (hy : y.length = 72) : y = y.take 68 ++ leN (crcSum (y.take 68)) 4 := by
  unfold readF at h
  split at h
  · cases h
  · split at h
    · cases h
    · split at h
      · cases h
      · split at h
        · cases h
        · rename_i h1 h2 h3 h4
          injection h with hk hs hb
          have hn : unle ((y.drop 12).take 4) = 52 := by
            rw [← hb] at hl
            simp at hl
            omega
          rw [hn] at h4
          have h5 := Classical.not_not.1 h4
          rw [sealB, show (52 + 20 : Nat) = y.length from by omega, List.take_length] at h5
          exact h5.symm
theorem decode_spoilt (s : Sup) (k : Nat) (hk : k < 72) (c : UInt8) (hc : c ≠ (supB s)[k]'(by rw [supB_length]; exact hk)) : (decode ((supB s).set k c)).2 ≠ 0 := by
  have hlen := supB_length s
  have hylen : ((supB s).set k c).length = 72 := by simp [hlen]
  have hF : supB s = (supB s).take 68 ++ leN (crcSum ((supB s).take 68)) 4 := by
    have e : (supB s).take 68 = [80, 76, 1, 0] ++ leN s.serial 8 ++ leN (supBody s).length 4 ++ supBody s := by
      rw [supB, frameB, sealB]
      exact List.take_left' (by simp [leN_length, supBody_length])
    rw [e]
    rfl
  intro h0
  unfold decode at h0
  split at h0
  · rename_i code hr
    unfold readF at hr
    split at hr
    · injection hr with hr; rw [← hr] at h0; simp at h0
    · split at hr
      · injection hr with hr; rw [← hr] at h0; simp at h0
      · split at hr
        · injection hr with hr; rw [← hr] at h0; simp at h0
        · split at hr
          · injection hr with hr; rw [← hr] at h0; simp at h0
          · cases hr
  · rename_i kd ser b hr
    split at h0
    · rename_i hkb
      have hy := readF_kind hr hkb.2 hylen
      by_cases h68 : k < 68
      · have e1 : ((supB s).set k c).take 68 = ((supB s).take 68).set k c := List.take_set
        have hk2 : k < ((supB s).take 68).length := by simp [hlen]; omega
        have hne : c ≠ ((supB s).take 68)[k]'hk2 := by rw [List.getElem_take]; exact hc
        apply crcSum_spoilt ((supB s).take 68) k c hk2 hne
        rw [← e1]
        have d1 : ((supB s).set k c).drop 68 = leN (crcSum (((supB s).set k c).take 68)) 4 := by
          conv => lhs; rw [hy]
          exact List.drop_left' (by simp [hlen])
        have d2 : (supB s).drop 68 = leN (crcSum ((supB s).take 68)) 4 := by
          conv => lhs; rw [hF]
          exact List.drop_left' (by simp [hlen])
        have d3 : ((supB s).set k c).drop 68 = (supB s).drop 68 := by rw [List.drop_set, if_pos h68]
        rw [d1, d2] at d3
        have := congrArg unle d3
        rwa [unle_leN _ _ (crcSum_lt _), unle_leN _ _ (crcSum_lt _)] at this
      · have e1 : ((supB s).set k c).take 68 = (supB s).take 68 := by rw [List.take_set, List.set_eq_of_length_le (by simp; omega)]
        rw [e1, ← hF] at hy
        apply hc
        have := congrArg (fun l : List UInt8 => l[k]?) hy
        simp only [List.getElem?_set_self (show k < (supB s).length from by omega)] at this
        rw [List.getElem?_eq_getElem (by omega)] at this
        exact Option.some.inj this
    · simp at h0
end Go.Proofs.YtaldjmhikebecaaGreat
