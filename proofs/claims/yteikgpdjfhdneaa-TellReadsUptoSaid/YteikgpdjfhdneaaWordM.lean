/- Numbers as bytes, plain: how many bytes, which, and what they are worth; no Go and no memory. -/
import Derived.Lib.BitFns
import Derived.Lib.Hide
namespace Go.Proofs.Yteikgpdjfhdneaa.WordM
def szW (x : Nat) : Nat := if x < 1 then 0 else if x < 256 then 1 else if x < 65536 then 2 else if x < 16777216 then 3 else if x < 4294967296 then 4 else if x < 1099511627776 then 5 else if x < 281474976710656 then 6 else if x < 72057594037927936 then 7 else 8
def bytesN : Nat → Nat → List UInt8
  | 0, _ => []
  | n + 1, x => bytesN n (x / 256) ++ [(x % 256).toUInt8]
def bytesW (x : Nat) : List UInt8 := bytesN (szW x) x
def valW (l : List UInt8) : Nat := l.foldl (fun a b => 256 * a + b.toNat) 0
def encW (x : Nat) : List UInt8 := (szW x).toUInt8 :: bytesW x
theorem szW_le (x : Nat) : szW x ≤ 8 := by unfold szW; (repeat' split) <;> omega
theorem bytesN_length : ∀ n x, (bytesN n x).length = n
  | 0, _ => rfl
  | n + 1, x => by simp [bytesN, bytesN_length n]
theorem bytesW_length (x : Nat) : (bytesW x).length = szW x := bytesN_length _ _
theorem encW_length (x : Nat) : (encW x).length = szW x + 1 := by simp [encW, bytesW_length]
theorem szW_char (x n : Nat) (hn : n ≤ 8) (hx : x < 18446744073709551616) : szW x ≤ n ↔ x < 256 ^ n := by
  unfold szW
  match n, hn with
  | 0, _ => (repeat' split) <;> omega
  | 1, _ => (repeat' split) <;> omega
  | 2, _ => (repeat' split) <;> omega
  | 3, _ => (repeat' split) <;> omega
  | 4, _ => (repeat' split) <;> omega
  | 5, _ => (repeat' split) <;> omega
  | 6, _ => (repeat' split) <;> omega
  | 7, _ => (repeat' split) <;> omega
  | 8, _ => (repeat' split) <;> omega
theorem szW_div (x : Nat) (hx : x < 18446744073709551616) (h0 : x ≠ 0) : szW x = szW (x / 256) + 1 := by
  have h7 : szW (x / 256) ≤ 7 := (szW_char (x / 256) 7 (by omega) (by omega)).2 (by omega)
  have a := (szW_char (x / 256) (szW (x / 256)) (by omega) (by omega)).1 (Nat.le_refl _)
  have b := (szW_char x (szW x) (szW_le x) hx).1 (Nat.le_refl _)
  have c : szW x ≤ szW (x / 256) + 1 := (szW_char x _ (by omega) hx).2 (by rw [Nat.pow_succ]; omega)
  have d : ¬ szW x ≤ 0 := fun h => by
    have := (szW_char x 0 (by omega) hx).1 h
    simp at this
    omega
  obtain ⟨k, hk⟩ : ∃ k, szW x = k + 1 := ⟨szW x - 1, by omega⟩
  rw [hk, Nat.pow_succ] at b
  have e := (szW_char (x / 256) k (by have := szW_le x; omega) (by omega)).2 (by omega)
  omega
theorem bytesW_div (x : Nat) (hx : x < 18446744073709551616) (h0 : x ≠ 0) : bytesW x = bytesW (x / 256) ++ [(x % 256).toUInt8] := by
  unfold bytesW
  rw [szW_div x hx h0]
  rfl
theorem bytesW_zero : bytesW 0 = [] := rfl
theorem valW_snoc (l : List UInt8) (b : UInt8) : valW (l ++ [b]) = 256 * valW l + b.toNat := by simp [valW]
theorem val_bytesN : ∀ n x, valW (bytesN n x) = x % 256 ^ n
  | 0, x => by simp [bytesN, valW, Nat.mod_one]
  | n + 1, x => by
    rw [bytesN, valW_snoc, val_bytesN n]
    have e : (x % 256).toUInt8.toNat = x % 256 := by simp
    have h : 256 ^ (n + 1) = 256 * 256 ^ n := by rw [Nat.pow_succ, Nat.mul_comm]
    rw [e, h, Nat.mod_mul]
    omega
theorem val_bytesW (x : Nat) (hx : x < 18446744073709551616) : valW (bytesW x) = x := by
  unfold bytesW
  rw [val_bytesN]
  exact Nat.mod_eq_of_lt ((szW_char x (szW x) (szW_le x) hx).1 (Nat.le_refl _))
theorem bytesN_snoc (n x : Nat) (b : UInt8) : bytesN (n + 1) (256 * x + b.toNat) = bytesN n x ++ [b] := by
  have hb := b.toNat_lt
  have h1 : (256 * x + b.toNat) / 256 = x := by omega
  have h2 : ((256 * x + b.toNat) % 256).toUInt8 = b := by
    have : (256 * x + b.toNat) % 256 = b.toNat := by omega
    rw [this]
    simp
  rw [bytesN, h1, h2]
theorem snoc_ind {P : List UInt8 → Prop} (h0 : P []) (h1 : ∀ l b, P l → P (l ++ [b])) (l : List UInt8) : P l := by
  rw [← List.reverse_reverse l]
  induction l.reverse with
  | nil => exact h0
  | cons a r ih => rw [List.reverse_cons]; exact h1 _ _ ih
theorem bytesN_val (l : List UInt8) : bytesN l.length (valW l) = l := by
  induction l using snoc_ind with
  | h0 => rfl
  | h1 l b ih => rw [valW_snoc, List.length_append, List.length_singleton, bytesN_snoc, ih]
theorem valW_lt (l : List UInt8) : valW l < 256 ^ l.length := by
  induction l using snoc_ind with
  | h0 => simp [valW]
  | h1 l b ih =>
    have := b.toNat_lt
    rw [valW_snoc, List.length_append, List.length_singleton, Nat.pow_succ]
    omega
theorem valW_cons (a : UInt8) (l : List UInt8) : valW (a :: l) = a.toNat * 256 ^ l.length + valW l := by
  induction l using snoc_ind with
  | h0 => simp [valW]
  | h1 l b ih =>
    have : a :: (l ++ [b]) = (a :: l) ++ [b] := rfl
    rw [this, valW_snoc, ih, valW_snoc, List.length_append, List.length_singleton, Nat.pow_succ]
    rw [Nat.mul_add, Nat.mul_comm (256 ^ l.length) 256, ← Nat.mul_assoc, ← Nat.mul_assoc, Nat.mul_comm 256 a.toNat]
    omega
theorem sz_val (l : List UInt8) (hl : l.length ≤ 8) : szW (valW l) = l.length ↔ (l = [] ∨ ∃ a r, l = a :: r ∧ a ≠ 0) := by
  have hlt := valW_lt l
  have h8 : 256 ^ l.length ≤ 256 ^ 8 := Nat.pow_le_pow_right (by decide) hl
  have hx : valW l < 18446744073709551616 := by omega
  have hle := (szW_char (valW l) l.length hl hx).2 hlt
  cases l with
  | nil => simp [valW, szW]
  | cons a r =>
    have hc := szW_char (valW (a :: r)) r.length (by simp at hl; omega) hx
    have hv := valW_cons a r
    have hr := valW_lt r
    constructor
    · intro h
      refine .inr ⟨a, r, rfl, ?_⟩
      rintro rfl
      have : valW (0 :: r) < 256 ^ r.length := by rw [hv]; simpa using hr
      have := hc.2 this
      rw [h] at this
      simp at this
      omega
    · rintro (h | ⟨a', r', h, ha⟩)
      · cases h
      · injection h with h1 h2
        subst h1 h2
        have ha' : 1 ≤ a.toNat := by
          rcases Nat.eq_zero_or_pos a.toNat with h0 | h0
          · exact absurd (UInt8.toNat_inj.1 (by simpa using h0)) ha
          · exact h0
        have hge : 256 ^ r.length ≤ valW (a :: r) := by
          rw [hv]
          have := Nat.mul_le_mul_right (256 ^ r.length) ha'
          omega
        have : ¬ szW (valW (a :: r)) ≤ r.length := fun h => by
          have := hc.1 h
          omega
        simp at hle ⊢
        omega
theorem bytesW_val (l : List UInt8) (h : szW (valW l) = l.length) : bytesW (valW l) = l := by
  unfold bytesW
  rw [h, bytesN_val]
theorem bitLenAux_gt : ∀ (f x m : Nat), x < 2 ^ f → Lib.bitLenAux f x ≤ m → x < 2 ^ m := by
  intro f
  induction f with
  | zero =>
    intro x m h _
    have : 0 < 2 ^ m := Nat.two_pow_pos m
    simp at h
    omega
  | succ f ih =>
    intro x m h hle
    have hp : 0 < 2 ^ m := Nat.two_pow_pos m
    unfold Lib.bitLenAux at hle
    by_cases h0 : x = 0
    · omega
    · rw [if_neg h0] at hle
      obtain ⟨m, rfl⟩ : ∃ q, m = q + 1 := ⟨m - 1, by omega⟩
      have := ih (x / 2) m (by rw [Nat.pow_succ] at h; omega) (by omega)
      rw [Nat.pow_succ]
      omega
theorem bitLenAux_iff (x m : Nat) (h : x < 2 ^ 64) : Lib.bitLenAux 64 x ≤ m ↔ x < 2 ^ m :=
  ⟨bitLenAux_gt 64 x m h, Lib.bitLenAux_le 64 x m⟩
theorem size_is (x : Nat) (hx : x < 9223372036854775808) : (Lib.bitLen x + 7) / 8 = szW x := by
  have hx' : x < 18446744073709551616 := by omega
  have h : ∀ n, n ≤ 8 → ((Lib.bitLen x + 7) / 8 ≤ n ↔ szW x ≤ n) := by
    intro n hn
    rw [szW_char x n hn hx', show 256 ^ n = 2 ^ (8 * n) by rw [Nat.pow_mul], ← bitLenAux_iff x (8 * n) (by omega)]
    show (Lib.bitLenAux 64 x + 7) / 8 ≤ n ↔ _
    omega
  have h8 := (h 8 (Nat.le_refl _)).2 (szW_le x)
  have h1 := (h (szW x) (szW_le x)).2 (Nat.le_refl _)
  have h2 := (h ((Lib.bitLen x + 7) / 8) h8).1 (Nat.le_refl _)
  omega
end Go.Proofs.Yteikgpdjfhdneaa.WordM
