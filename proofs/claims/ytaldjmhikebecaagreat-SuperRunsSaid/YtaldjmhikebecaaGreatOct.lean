/- Layer 1 (octets): what the calls come to. -/
import Derived.Test.YtaldjmhikebecaaGreatLib
import Derived.Test.YtaldjmhikebecaaGreatProg
import Derived.Deep.QuietTactic
import Derived.BigQuiet
import Derived.WalkSpells
import Derived.RangeFuncOwn
namespace Go.Proofs.YtaldjmhikebecaaGreat
open Go Go.RowKit
set_option maxRecDepth 100000
theorem info_u64 : (Tryz.prog.info? 27).map (fun i => (i.zero, i.size, i.bytes)) = some (some (.int .u64 0), 1, 8) := by kernel_rfl
theorem info_u8 : (Tryz.prog.info? 5).map (fun i => (i.zero, i.size, i.bytes)) = some (some (.int .u8 0), 1, 1) := by kernel_rfl

/-- What a call hands back: bytes in a row of its own, all else as it was. -/
def RetB (w : World) (n : Nat) (l : List UInt8) (e : Ending) (w' : World) : Prop :=
  ∃ A c, e = .returned (.slice A n c) ∧ w'.ownsRow w.heap.size 5 1 (.slice A n c) n (bytes l) ∧ Below w.heap.size w w'

theorem bytes_nil : bytes [] = [] := rfl
theorem eq_nil_bytes (w : World) (a : Option Addr) (n c : Nat) : (binOp .eql 51 (.slice a n c) (.slice none 0 0)).run Tryz.prog w = .ok (.bool a.isNone) w := by
  rw [Lib.run_eql_slice_nil w 51 5 a n c 0 0 Tryz.underlying51]
attribute [local go_sem] eq_nil_bytes
theorem own_lit0 (w : World) (e : TypeId) : (w.alloc (.cells #[] e)).ownsRow w.heap.size e 1 (.slice (some ⟨w.heap.size, 0, none⟩) 0 0) 0 [] :=
  World.ownsRow_made w #[] 0 (Nat.le_refl _) (by simp [maxLen]) (by simp)
theorem Clone_any (A : Option Addr) (n c : Nat) (l : List UInt8) (w : World) (h : Bs w A n c l) (hb : n ≤ 140737488355328) :
    Calls Tryz.prog 96 #[.slice A n c] w (RetB w n l) := by
  have hl := Lib.hid h.len
  have HB := Lib.hid hb
  clear hb
  have hr := h.alloc (.cells #[] 5)
  have HR := Lib.hid hr
  have H := Lib.hid h
  have ho := Lib.hid (own_lit0 w 5)
  clear hr h
  rcases A with _ | ad
  · obtain rfl : l = [] := by
      rcases l with _ | ⟨x, l⟩
      · rfl
      · obtain ⟨ad, e, _⟩ := H.out.2.2.2 (by have := hl.out; simp at this; omega); cases e
    obtain rfl : n = 0 := by have := hl.out; simpa using this.symm
    go_enter Tryz.func96, Tryz.ntmps96
    go_wp2_with fail
    go_ret
    exact ⟨none, 0, rfl, World.ownsRow_nil _ _ _ _, Below.refl _ _⟩
  · go_enter Tryz.func96, Tryz.ntmps96
    go_wp2_with (at_builtin; go_must (refine wpList_append_rd rfl _ _ _ 5 rfl (.int .u8 0) 1 1 Tryz.underlying51 info_u8 rfl (by decide) ho.out rfl HR.out rfl (bytes_oneCell l) ?_ ?c1 ?c2 ?c3; intro A1 c1 w1 ho1 hg1))
    case c1 => simpa using HB.out
    case c2 => have := H.out.le; omega
    case c3 => simp
    simp only [Nat.zero_add, List.nil_append] at ho1 ⊢
    go_ret
    exact ⟨A1, c1, rfl, ho1, hg1.below ((Below.refl _ _).alloc (Nat.le_refl _) _) ho.out (Nat.le_refl _)⟩

/-- What a call hands back that has written onto the row v: bytes in a row that is owned. -/
def RetOwn (w : World) (base : Nat) (v : Value) (n : Nat) (l : List UInt8) (e : Ending) (w' : World) : Prop :=
  ∃ A c, e = .returned (.slice A n c) ∧ w'.ownsRow base 5 1 (.slice A n c) n (bytes l) ∧ Grew w v w' (.slice A n c)
theorem cell_new1 (w : World) (u : Value) (e : TypeId) : Rd (w.alloc (.cells #[u] e)) 1 (some ⟨w.heap.size, 0, none⟩) 1 1 [u] := by
  refine ⟨rfl, Nat.le_refl _, by unfold maxLen; omega, fun _ => ⟨_, rfl, fun j x hx => ?_⟩⟩
  have hj : j = 0 := by
    rcases j with _ | j
    · rfl
    · simp at hx
  subst hj
  simp at hx
  subst hx
  simp [Addr.add, World.cell?_alloc_at]
theorem put_any (A : Option Addr) (m c : Nat) (l : List UInt8) (v : Nat) (n : Nat) (base : Nat) (w : World) (hv : v < 18446744073709551616) (hn : n ≤ 8)
    (ho : w.ownsRow base 5 1 (.slice A m c) m (bytes l)) (hb : base ≤ w.heap.size) (hm : m + n ≤ 140737488355328) :
    Calls Tryz.prog 98 #[.slice A m c, .int .u64 v, .int .i64 n] w (RetOwn w base (.slice A m c) (m + n) (l ++ leN v n)) := by
  have HV := Lib.hid hv
  have HM := Lib.hid hm
  have HO := Lib.hid ho
  clear hv hm ho
  go_enter Tryz.func98, Tryz.ntmps98
  go_wp2_with fail
  go_loopw [0, 9] (fun u i wr => ∃ (k : Nat) (A' : Option Addr) (c' : Nat), k ≤ n ∧ i = .int .i64 k ∧ u = .slice A' (m + k) c' ∧ Hid (wr.ownsRow base 5 1 (.slice A' (m + k) c') (m + k) (bytes (l ++ leN v k))) ∧ Hid (Grew w (.slice A m c) wr (.slice A' (m + k) c'))) (fun _ i _ => n - (intOf i).toNat)
  case atStart => exact ⟨0, A, c, Nat.zero_le _, rfl, rfl, by simpa [leN, Hid] using HO.out, Grew.refl _ _⟩
  case round =>
    obtain ⟨k, A', c', hk, rfl, rfl, hown, hgrew⟩ := hrel
    by_cases hlt : k < n
    · go_wp2_with (at_builtin; go_must (refine wpList_append_rd rfl _ _ _ 5 rfl (.int .u8 0) 1 1 Tryz.underlying51 info_u8 rfl (by decide) (hown.out.alloc _) rfl (cell_new1 _ _ _) rfl (by simp [Value.oneCell']) ?_ ?c1 ?c2 ?c3; intro A1 c1 w1 ho1 hg1))
      case c1 => have := HM.out; omega
      case c2 => have := HM.out; unfold maxLen; omega
      case c3 => have := hgrew.out.g.size; simp; omega
      go_roundw
      case rel =>
        refine ⟨k + 1, A1, c1, by omega, by go_num, rfl, ?_, (hgrew.out.alloc _).trans hg1⟩
        have e : bytes (l ++ leN v (k + 1)) = bytes (l ++ leN v k) ++ [.int .u8 ((v : Int) / 2 ^ (8 * k) % 256)] := by
          rw [leN, ← List.append_assoc, bytes_append (l ++ leN v k)]
          show _ ++ [byt _] = _
          rw [byt, byte_at]
        rw [e]
        exact ho1
      case measure => simp [intOf]; omega
    · obtain rfl : k = n := by omega
      go_wp2_with fail
      go_ret
      exact ⟨A', c', rfl, hown.out, hgrew.out⟩

theorem sized_yes (n : Int) (w : World) (h1 : 1 ≤ n) (h2 : n ≤ 8) : Calls Tryz.prog 95 #[.int .i64 n] w fun e w' => e = .returned (.bool true) ∧ w = w' := by
  go_enter Tryz.func95, Tryz.ntmps95
  go_wp2
  go_ret
  exact ⟨by simp, rfl⟩
theorem fits_yes (v n : Nat) (w : World) (h1 : 1 ≤ n) (h2 : n ≤ 8) (h64 : v < 18446744073709551616) (hv : v < 256 ^ n) : Calls Tryz.prog 97 #[.int .u64 v, .int .i64 n] w fun e w' => e = .returned (.bool true) ∧ w = w' := by
  have H64 := Lib.hid h64
  have e : Hid ((v : Int) / 2 ^ (8 * n) = 0) := by
    rw [show (256 : Nat) ^ n = 2 ^ (8 * n) from by rw [Nat.pow_mul]] at hv
    refine Lib.hid ?_
    have : v / 2 ^ (8 * n) = 0 := Nat.div_eq_of_lt hv
    have h2 : ((v / 2 ^ (8 * n) : Nat) : Int) = 0 := by rw [this]; rfl
    simpa using h2
  clear hv h64
  by_cases h8 : n = 8
  · subst h8
    go_enter Tryz.func97, Tryz.ntmps97
    go_wp2
    go_ret
    exact ⟨rfl, rfl⟩
  · go_enter Tryz.func97, Tryz.ntmps97
    go_wp2
    go_ret
    exact ⟨by simp [e.out], rfl⟩

/-- What a call hands back: bytes in a row of its own, and an error's number. -/
def RetBE (w : World) (n : Nat) (l : List UInt8) (code : Int) (e : Ending) (w' : World) : Prop :=
  ∃ A c, e = .returned (.tuple #[.slice A n c, .int .i64 code]) ∧ w'.ownsRow w.heap.size 5 1 (.slice A n c) n (bytes l) ∧ Below w.heap.size w w'
def u64v (v : Nat) : Value := .int .u64 (v : Int)
def u64s (vs : List Nat) : List Value := vs.map u64v

theorem PutAll_ok (A : Option Addr) (m c : Nat) (l : List UInt8) (n : Nat) (A2 : Option Addr) (k2 c2 : Nat) (vs : List Nat) (w : World) (h : Bs w A m c l) (h1 : 1 ≤ n) (h2 : n ≤ 8)
    (hr : Rd w 1 A2 k2 c2 (u64s vs)) (h64 : ∀ v ∈ vs, v < 18446744073709551616) (hfit : ∀ v ∈ vs, v < 256 ^ n) (hm : m + k2 * n ≤ 140737488355328) :
    Calls Tryz.prog 69 #[.slice A m c, .int .i64 n, .slice A2 k2 c2] w (RetBE w (m + k2 * n) (l ++ leAll n vs) 0) := by
  have HL := Lib.hid h.len
  have HR := Lib.hid hr
  have H := Lib.hid h
  have HM := Lib.hid hm
  have H64 := Lib.hid h64
  have HF := Lib.hid hfit
  have hk2 : Hid (vs.length = k2) := Lib.hid (by have := hr.1; simpa [u64s] using this)
  have hi := hr.i64
  clear hr h hm h64 hfit
  go_enter Tryz.func69, Tryz.ntmps69
  go_wp2_with (go_at_call 95; go_must (refine (sized_yes _ _ (by omega) (by omega)).mono ?_; rintro e w' ⟨rfl, rfl⟩))
  go_wp2_with (go_at_call 96; go_must (refine (Clone_any _ _ _ _ _ H.out (by have := HM.out; omega)).mono ?_; rintro e w1 ⟨A1, c1, rfl, ho1, hb1⟩; have HO := Lib.hid ho1; have HB := Lib.hid hb1; clear ho1 hb1))
  go_loopw [8, 18] (fun u i wr => ∃ (k : Nat) (A' : Option Addr) (c' : Nat), k ≤ k2 ∧ i = .int .i64 k ∧ u = .slice A' (m + k * n) c' ∧ Hid (wr.ownsRow w.heap.size 5 1 (.slice A' (m + k * n) c') (m + k * n) (bytes (l ++ leAll n (vs.take k)))) ∧ Hid (Below w.heap.size w wr)) (fun _ i _ => k2 - (intOf i).toNat)
  case atStart => exact ⟨0, A1, c1, Nat.zero_le _, rfl, by simp, Lib.hid (by simpa [leAll] using HO.out), HB⟩
  case round =>
    obtain ⟨k, A', c', hk, rfl, rfl, hown, hbel⟩ := hrel
    by_cases hlt : k < k2
    · obtain ⟨ad, rfl, hc⟩ := (HR.out.below hbel.out).at_ hlt
      have hkl : k < vs.length := by rw [hk2.out]; exact hlt
      have hcell : wr.cell? (ad.add k) = some (.int .u64 (vs[k] : Nat)) := by rw [hc]; simp [u64s, u64v]
      clear hc
      have hmem := List.getElem_mem hkl
      have hv := Lib.hid (H64.out _ hmem)
      have hf := Lib.hid (HF.out _ hmem)
      have hsz : Hid (m + k * n + n ≤ 140737488355328) := Lib.hid (by
        have := HM.out
        have h3 : (k + 1) * n ≤ k2 * n := Nat.mul_le_mul (by omega) (Nat.le_refl _)
        rw [Nat.add_mul] at h3
        omega)
      clear hmem
      generalize hx : vs[k] = x at hcell hv hf
      have hx := Lib.hid hx
      go_wp2_with (go_at_call 97; go_must (refine (fits_yes _ _ _ h1 h2 hv.out hf.out).mono ?_; rintro e w' ⟨rfl, rfl⟩))
      go_wp2_with (go_at_call 98; go_must (refine (put_any _ _ _ _ _ _ w.heap.size _ hv.out h2 hown.out hbel.out.size hsz.out).mono ?_; rintro e w1 ⟨A1, c1, rfl, ho1, hg1⟩; have HO1 := Lib.hid ho1; have HB1 := Lib.hid hg1; clear ho1 hg1))
      go_roundw
      case rel =>
        have e : m + (k + 1) * n = m + k * n + n := by rw [Nat.add_mul]; omega
        refine ⟨k + 1, A1, c1, by omega, by go_num, by rw [e], ?_, Lib.hid (HB1.out.below hbel.out hown.out (Nat.le_refl _))⟩
        rw [e, leAll_take n vs k hkl, hx.out, ← List.append_assoc]
        exact HO1
      case measure => simp [intOf]; omega
    · obtain rfl : k = k2 := by omega
      go_wp2_with fail
      go_ret2
      exact ⟨A', c', rfl, by have := hown.out; rwa [List.take_of_length_le (by have := hk2.out; omega)] at this, hbel.out⟩

theorem below_alloc_then {w w' : World} {o : Obj} (h : Below (w.alloc o).heap.size (w.alloc o) w') : Below w.heap.size w w' :=
  ((Below.refl _ _).alloc (Nat.le_refl _) o).trans (h.mono (by simp))
theorem RetBE.alloc {w : World} {o : Obj} {n : Nat} {l : List UInt8} {c : Int} {e : Ending} {w' : World} (h : RetBE (w.alloc o) n l c e w') : RetBE w n l c e w' := by
  obtain ⟨A, c, he, ho, hb⟩ := h
  exact ⟨A, c, he, own_weaken ho (by simp), below_alloc_then hb⟩
theorem Put_ok (A : Option Addr) (m c : Nat) (l : List UInt8) (v n : Nat) (w : World) (h : Bs w A m c l) (h1 : 1 ≤ n) (h2 : n ≤ 8)
    (h64 : v < 18446744073709551616) (hfit : v < 256 ^ n) (hm : m + n ≤ 140737488355328) :
    Calls Tryz.prog 68 #[.slice A m c, .int .u64 v, .int .i64 n] w (RetBE w (m + n) (l ++ leN v n) 0) := by
  have H := Lib.hid h
  have HM := Lib.hid hm
  have H64 := Lib.hid h64
  have HF := Lib.hid hfit
  clear h hm h64 hfit
  go_enter Tryz.func68, Tryz.ntmps68
  go_wp2_with (go_at_call 69; go_must (refine (PutAll_ok _ _ _ l _ _ _ _ [v] _ (H.out.alloc _) h1 h2 (cell_new1 _ _ _) (by simpa using H64.out) (by simpa using HF.out) (by have := HM.out; omega)).mono ?_; rintro e w1 ⟨A1, c1, rfl, ho1, hb1⟩; have HO := Lib.hid ho1; have HB := Lib.hid hb1; clear ho1 hb1))
  go_ret2
  exact RetBE.alloc (o := .cells #[.int .u64 v] 27) ⟨A1, c1, by simp, by simpa [leAll] using HO.out, HB.out⟩

theorem PutText_ok (A : Option Addr) (m c : Nat) (l : List UInt8) (A2 : Option Addr) (m2 c2 : Nat) (l2 : List UInt8) (w : World) (h : Bs w A m c l) (h2 : Bs w A2 m2 c2 l2) (hb : m2 ≤ 16777216) (hm : m + 4 + m2 ≤ 140737488355328) :
    Calls Tryz.prog 99 #[.slice A m c, .slice A2 m2 c2] w (RetBE w (m + 4 + m2) (l ++ leN m2 4 ++ l2) 0) := by
  have H := Lib.hid h
  have H2 := Lib.hid h2
  have HM := Lib.hid hm
  clear h h2 hm
  go_enter Tryz.func99, Tryz.ntmps99
  go_wp2_with (go_at_call 96; go_must (refine (Clone_any _ _ _ _ _ H.out (by have := HM.out; omega)).mono ?_; rintro e w1 ⟨A1, c1, rfl, ho1, hb1⟩; have HO := Lib.hid ho1; have HB := Lib.hid hb1; clear ho1 hb1))
  go_wp2_with (first | ((go_at_call 98; go_must (refine (put_any _ _ _ _ _ 4 w.heap.size _ (by omega) (by omega) HO.out HB.out.size (by have := HM.out; omega)).mono ?_; rintro e wx2 ⟨Ax2, cx2, rfl, hox2, hbx2⟩; have HO2 := Lib.hid hox2; have HB2 := Lib.hid hbx2; clear hox2 hbx2)); have HB3 := Lib.hid (HB2.out.below HB.out HO.out (Nat.le_refl _))) | (at_builtin; go_must (refine wpList_append_rd rfl _ _ _ 5 rfl (.int .u8 0) 1 1 Tryz.underlying51 info_u8 rfl (by decide) HO2.out rfl (H2.out.below HB3.out) rfl (bytes_oneCell l2) ?_ ?c1 ?c2 ?c3; intro A1 c1 w1 ho1 hg1)))
  case c1 => have := HM.out; omega
  case c2 => have := HM.out; unfold maxLen; omega
  case c3 => exact HB3.out.size
  go_ret2
  exact ⟨A1, c1, rfl, by rw [bytes_append (l ++ leN m2 4)]; exact ho1, hg1.below HB3.out HO2.out (Nat.le_refl _)⟩

theorem or_byte (a k c : Nat) (ha : a < 256 ^ k) (hk : k < 8) (hc : c < 256) : bits .or .u64 (a : Int) (IntKind.u64.wrap (IntKind.u64.wrap (c : Int) * 2 ^ (8 * k))) = ((a + c * 256 ^ k : Nat) : Int) := by
  have e : (256 : Nat) ^ k = 2 ^ (8 * k) := by rw [Nat.pow_mul]
  have hp : (256 : Nat) ^ k * 256 ≤ 18446744073709551616 := by
    rw [← Nat.pow_succ]
    exact Nat.le_trans (Nat.pow_le_pow_right (by omega) (show k + 1 ≤ 8 by omega)) (by decide)
  have h1 : c * 256 ^ k < 18446744073709551616 := by
    have : c * 256 ^ k < 256 * 256 ^ k := Nat.mul_lt_mul_of_pos_right hc (Nat.pow_pos (by omega))
    omega
  have w1 : IntKind.u64.wrap (c : Int) = c := by rw [IntKind.wrap_u64]; omega
  have w2 : IntKind.u64.wrap ((c : Int) * 2 ^ (8 * k)) = ((c * 256 ^ k : Nat) : Int) := by
    rw [show (c : Int) * 2 ^ (8 * k) = ((c * 256 ^ k : Nat) : Int) from by rw [e]; simp]
    rw [IntKind.wrap_u64]; omega
  rw [w1, w2, u64_or_nat _ _ (by omega) h1, Nat.or_comm, nat_join (8 * k) _ _ (by rw [e]; exact Nat.mul_mod_left _ _) (by rw [← e]; exact ha), Nat.add_comm]
theorem Get_ok (A : Option Addr) (m c : Nat) (l : List UInt8) (p q : Int) (at_ n : Nat) (w : World) (h : Bs w A m c l) (hp : p = at_) (hq : q = n) (h1 : 1 ≤ n) (h2 : n ≤ 8) (h3 : at_ + n ≤ m) :
    Calls Tryz.prog 75 #[.slice A m c, .int .i64 p, .int .i64 q] w fun e w' => e = .returned (.tuple #[.int .u64 (unle ((l.drop at_).take n) : Nat), .int .i64 (p + q), .int .i64 0]) ∧ w = w' := by
  subst hp hq
  have hi := h.i64
  have hmc : m ≤ c := h.2.1
  have hcm : c ≤ 9223372036854775807 := by have := h.2.2.1; unfold maxLen at this; omega
  obtain ⟨ad, rfl, hcell⟩ := h.2.2.2 (by omega)
  have HC := Lib.hid hcell
  have HL := Lib.hid h.len
  clear hcell h
  have hne : ¬ (c = at_) := by omega
  have b1 : decide ((at_ : Int) < 0) = false := by simp
  have b2 : decide (m < at_) = false := by simp; omega
  have b3 : decide ((m : Int) - at_ < n) = false := by simp; omega
  go_enter Tryz.func75, Tryz.ntmps75
  go_wp2_with (go_at_call 95; go_must (refine (sized_yes _ _ (by omega) (by omega)).mono ?_; rintro e w' ⟨rfl, rfl⟩))
  go_loop [9, 39] (fun v i => ∃ k : Nat, k ≤ n ∧ i = .int .i64 k ∧ v = .int .u64 (unle ((l.drop at_).take k) : Nat)) (fun _ i => n - (intOf i).toNat)
  case atStart => exact ⟨0, Nat.zero_le _, rfl, rfl⟩
  case round =>
    obtain ⟨k, hk, rfl, rfl⟩ := hrel
    by_cases hlt : k < n
    · have hcell : w.cell? ((ad.add at_).add k) = some (byt (l[at_ + k]'(by have := HL.out; omega))) := by
        rw [add_add']
        have hl := HL.out
        exact HC.out _ _ (by simp only [bytes, List.getElem?_map]; rw [List.getElem?_eq_getElem (by omega)]; rfl)
      unfold byt at hcell
      go_wp2
      refine ⟨⟨k + 1, by omega, by go_num, ?_⟩, by simp [intOf]; omega⟩
      have hl := HL.out
      have hlen : (List.take k (List.drop at_ l)).length = k := by simp; omega
      rw [or_byte _ _ _ (by have := unle_lt (List.take k (List.drop at_ l)); rwa [hlen] at this) (by omega) (UInt8.toNat_lt _), List.take_succ_eq_append_getElem (by simp; omega), unle_snoc, hlen]
      simp
    · obtain rfl : k = n := by omega
      go_wp2
      go_ret3
      exact ⟨rfl, rfl⟩

def RetGA (w : World) (vs : List Nat) (k : Nat) (nx : Int) (e : Ending) (w' : World) : Prop :=
  ∃ A c, e = .returned (.tuple #[.slice A k c, .int .i64 nx, .int .i64 0]) ∧ w'.ownsRow w.heap.size 27 1 (.slice A k c) k (u64s vs) ∧ Below w.heap.size w w'
theorem GetAll_ok (A : Option Addr) (m c : Nat) (l : List UInt8) (p q r : Int) (at_ n cnt : Nat) (w : World) (h : Bs w A m c l) (hp : p = at_) (hq : q = n) (hr : r = cnt) (h1 : 1 ≤ n) (h2 : n ≤ 8) (h3 : at_ + cnt * n ≤ m) (h4 : cnt ≤ 16777216) :
    Calls Tryz.prog 76 #[.slice A m c, .int .i64 p, .int .i64 q, .int .i64 r] w (RetGA w (getAll l at_ n cnt) cnt ((at_ : Int) + cnt * n)) := by
  subst hp hq hr
  have hi := h.i64
  have H := Lib.hid h
  clear h
  have b1 : decide ((at_ : Int) < 0) = false := by simp
  have b2 : decide (m < at_) = false := by simp; omega
  go_enter Tryz.func76, Tryz.ntmps76
  go_wp2_with (go_at_call 95; go_must (refine (sized_yes _ _ (by omega) (by omega)).mono ?_; rintro e w' ⟨rfl, rfl⟩))
  go_loopw [1, 11, 35] (fun q u i wr => ∃ (k : Nat) (A' : Option Addr) (c' : Nat), k ≤ cnt ∧ i = .int .i64 k ∧ q = .int .i64 ((at_ : Int) + k * n) ∧ u = .slice A' k c' ∧ Hid (wr.ownsRow w.heap.size 27 1 (.slice A' k c') k (u64s (getAll l at_ n k))) ∧ Hid (Below w.heap.size w wr)) (fun _ _ i _ => cnt - (intOf i).toNat)
  case atStart => exact ⟨0, none, 0, Nat.zero_le _, rfl, by simp, rfl, World.ownsRow_nil _ _ _ _, Below.refl _ _⟩
  case round =>
    obtain ⟨k, A', c', hk, rfl, rfl, rfl, hown, hbel⟩ := hrel
    by_cases hlt : k < cnt
    · have hkn : at_ + k * n + n ≤ m := by
        have : (k + 1) * n ≤ cnt * n := Nat.mul_le_mul (by omega) (Nat.le_refl _)
        rw [Nat.add_mul] at this
        omega
      go_wp2_with (first | (go_at_call 75; go_must (refine (Get_ok _ _ _ l _ _ (at_ + k * n) n _ (H.out.below hbel.out) (by simp) rfl h1 h2 hkn).mono ?_; rintro e w' ⟨rfl, rfl⟩)) | (at_builtin; go_must (refine wpList_append_rd rfl _ _ _ 27 rfl (.int .u64 0) 1 8 Tryz.underlying141 info_u64 rfl (by decide) (hown.out.alloc _) rfl (cell_new1 _ _ _) rfl (by simp [Value.oneCell']) ?_ ?c1 ?c2 ?c3; intro A1 c1 w1 ho1 hg1)))
      case c1 => omega
      case c2 => unfold maxLen; omega
      case c3 => have := hbel.out.size; simp; omega
      go_roundw
      case rel =>
        refine ⟨k + 1, A1, c1, by omega, by go_num, ?_, rfl, Lib.hid (by rw [getAll]; simpa [u64s, u64v] using ho1), Lib.hid (hg1.below (hbel.out.alloc hbel.out.size _) (hown.out.alloc _) (Nat.le_refl _))⟩
        congr 1
        push_cast
        rw [Int.add_mul]
        omega
      case measure => simp [intOf]; omega
    · obtain rfl : k = cnt := by omega
      go_wp2_with fail
      go_ret3
      exact ⟨A', c', rfl, hown.out, hbel.out⟩
theorem cutB (A : Option Addr) (n c m : Nat) (hm : m ≤ n) :
    ∃ A' : Option Addr, (∀ W : World, (Instr.slice 51 (.slice A n c) (some (.int .i64 (m : Int))) none none).run Tryz.prog W = .ok (.slice A' (n - m) (c - m)) W) ∧
      (∀ (w : World) (l : List UInt8), Bs w A n c l → Bs w A' (n - m) (c - m) (l.drop m)) ∧ (∀ ad', A' = some ad' → ∃ ad, A = some ad ∧ ad'.block = ad.block) := by
  obtain ⟨i, hi, _, hs, _⟩ := info_parts info_u8
  exact cut_bytes 51 5 Tryz.underlying51 hi hs A n c m hm
theorem cutB2 (A : Option Addr) (n c lo hi : Nat) (h1 : lo ≤ hi) (h2 : hi ≤ n) (hc : n ≤ c) :
    ∃ A' : Option Addr, (∀ W : World, (Instr.slice 51 (.slice A n c) (some (.int .i64 (lo : Int))) (some (.int .i64 (hi : Int))) none).run Tryz.prog W = .ok (.slice A' (hi - lo) (c - lo)) W) ∧
      (∀ (w : World) (l : List UInt8), Bs w A n c l → Bs w A' (hi - lo) (c - lo) ((l.drop lo).take (hi - lo))) ∧ (∀ ad', A' = some ad' → ∃ ad, A = some ad ∧ ad'.block = ad.block) := by
  obtain ⟨i, hi', _, hs, _⟩ := info_parts info_u8
  exact cut2_bytes 51 5 Tryz.underlying51 hi' hs A n c lo hi h1 h2 hc
theorem bthen {w a b : World} (h : Below w.heap.size w a) (k : Below a.heap.size a b) : Below w.heap.size w b := h.trans (k.mono h.size)
theorem keeps_below {W W' : World} (h : Below W.heap.size W W') : KeepsOthers W W' := ⟨h.size, fun k _ hk _ => (h.block k (blk_lt hk)).trans hk⟩
end Go.Proofs.YtaldjmhikebecaaGreat
namespace Go.Proofs.YtaldjmhikebecaaGreat
open Go Go.RowKit
set_option maxRecDepth 100000
set_option linter.unusedVariables false
attribute [local go_sem] Oper.semAt_some eq_nil_bytes
theorem BClone_any (A : Option Addr) (n c : Nat) (l : List UInt8) (w : World) (h : Bs w A n c l) (hb : n ≤ 140737488355328) :
    Calls Tryz.prog 43 #[.slice A n c] w (RetB w n l) := by
  have hl := Lib.hid h.len
  have HB := Lib.hid hb
  clear hb
  have hr := h.alloc (.cells #[] 5)
  have HR := Lib.hid hr
  have H := Lib.hid h
  have ho := Lib.hid (own_lit0 w 5)
  clear hr h
  rcases A with _ | ad
  · obtain rfl : l = [] := by
      rcases l with _ | ⟨x, l⟩
      · rfl
      · obtain ⟨ad, e, _⟩ := H.out.2.2.2 (by have := hl.out; simp at this; omega); cases e
    obtain rfl : n = 0 := by have := hl.out; simpa using this.symm
    go_enter Tryz.func43, Tryz.ntmps43
    go_wp2_with fail
    go_ret
    exact ⟨none, 0, rfl, World.ownsRow_nil _ _ _ _, Below.refl _ _⟩
  · go_enter Tryz.func43, Tryz.ntmps43
    go_wp2_with (at_builtin; go_must (refine wpList_append_rd rfl _ _ _ 5 rfl (.int .u8 0) 1 1 Tryz.underlying51 info_u8 rfl (by decide) ho.out rfl HR.out rfl (bytes_oneCell l) ?_ ?c1 ?c2 ?c3; intro A1 c1 w1 ho1 hg1))
    case c1 => simpa using HB.out
    case c2 => have := H.out.le; omega
    case c3 => simp
    simp only [Nat.zero_add, List.nil_append] at ho1 ⊢
    go_ret
    exact ⟨A1, c1, rfl, ho1, hg1.below ((Below.refl _ _).alloc (Nat.le_refl _) _) ho.out (Nat.le_refl _)⟩

end Go.Proofs.YtaldjmhikebecaaGreat
