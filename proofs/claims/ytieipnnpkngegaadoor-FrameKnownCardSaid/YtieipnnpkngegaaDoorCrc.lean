/- The plain law of the check (CRC-32): the table of four steps is the bit by bit one; what differs within four bytes has unlike checks. -/
namespace Go.Proofs.YtieipnnpkngegaaDoor
namespace CrcPlain
def poly : Nat := 3988292384
/-- one step of the register -/
def step (n : Nat) : Nat := (n / 2) ^^^ ((n % 2) * poly)
def tab : List Nat := [0, 498536548, 997073096, 651767980, 1994146192, 1802195444, 1303535960, 1342533948, 3988292384, 4027552580, 3604390888, 3412177804, 2607071920, 2262029012, 2685067896, 3183342108]
def half (n : Nat) : Nat := (n / 16) ^^^ tab.getD (n % 16) 0
def step4 (n : Nat) : Nat := step (step (step (step n)))
def step8 (n : Nat) : Nat := step4 (step4 n)

theorem par_xor (a b : Nat) : (a ^^^ b) % 2 = (a % 2 + b % 2) % 2 := by
  have h : (a ^^^ b) % 2 = 1 ↔ ¬ (a % 2 = 1 ↔ b % 2 = 1) := Nat.xor_mod_two_eq_one
  omega
theorem xx (a b c d : Nat) : (a ^^^ b) ^^^ (c ^^^ d) = (a ^^^ c) ^^^ (b ^^^ d) := by ac_rfl
theorem step_xor (a b : Nat) : step (a ^^^ b) = step a ^^^ step b := by
  unfold step
  rw [Nat.xor_div_two, par_xor, xx]
  congr 1
  rcases (show a % 2 = 0 ∨ a % 2 = 1 by omega) with h1 | h1 <;> rcases (show b % 2 = 0 ∨ b % 2 = 1 by omega) with h2 | h2 <;> simp [h1, h2]
theorem step4_xor (a b : Nat) : step4 (a ^^^ b) = step4 a ^^^ step4 b := by simp [step4, step_xor]
theorem step8_xor (a b : Nat) : step8 (a ^^^ b) = step8 a ^^^ step8 b := by simp [step8, step4_xor]
theorem step_even (m : Nat) : step (2 * m) = m := by unfold step; simp
theorem step4_shift (m : Nat) : step4 (16 * m) = m := by
  unfold step4
  rw [show 16 * m = 2 * (2 * (2 * (2 * m))) by omega, step_even, step_even, step_even, step_even]
/-- disjoint bits -/
theorem add_xor (k a b : Nat) (h : b < 2 ^ k) : 2 ^ k * a + b = (2 ^ k * a) ^^^ b := by
  apply Nat.eq_of_testBit_eq
  intro i
  rw [Nat.testBit_xor, Nat.testBit_two_pow_mul_add _ h, Nat.testBit_two_pow_mul]
  by_cases hi : i < k
  · have : ¬ k ≤ i := by omega
    simp [hi, this]
  · have hb : b.testBit i = false := Nat.testBit_lt_two_pow (Nat.lt_of_lt_of_le h (Nat.pow_le_pow_right (by omega) (by omega)))
    simp [hi, hb]
    omega
theorem split16 (n : Nat) : n = (16 * (n / 16)) ^^^ (n % 16) := by
  have h := add_xor 4 (n / 16) (n % 16) (by omega)
  have h2 : n = 16 * (n / 16) + n % 16 := by omega
  exact h2.trans h
theorem low4 : ∀ r, r < 16 → step4 r = tab.getD r 0 := by decide
theorem half_eq (n : Nat) : half n = step4 n := by
  conv => rhs; rw [split16 n]
  rw [step4_xor, step4_shift, low4 _ (by omega)]; rfl
theorem halves (n : Nat) : half (half n) = step8 n := by rw [half_eq, half_eq]; rfl

/-! the register over bytes -/
def reg (r : Nat) : List Nat → Nat
  | [] => r
  | c :: l => reg (step8 (r ^^^ c)) l
def crc (l : List Nat) : Nat := 4294967295 ^^^ reg 4294967295 l
theorem reg_append (l m : List Nat) : ∀ r, reg r (l ++ m) = reg (reg r l) m := by
  induction l with
  | nil => intro r; rfl
  | cons c l ih => intro r; exact ih _

theorem lt_xor {a b k : Nat} (ha : a < 2 ^ k) (hb : b < 2 ^ k) : a ^^^ b < 2 ^ k := Nat.xor_lt_two_pow ha hb
theorem step_lt {n : Nat} (h : n < 2 ^ 32) : step n < 2 ^ 32 := by
  unfold step
  refine lt_xor (by omega) ?_
  have : n % 2 ≤ 1 := by omega
  calc n % 2 * poly ≤ 1 * poly := Nat.mul_le_mul_right _ this
    _ < 2 ^ 32 := by decide
theorem step4_lt {n : Nat} (h : n < 2 ^ 32) : step4 n < 2 ^ 32 := step_lt (step_lt (step_lt (step_lt h)))
theorem step8_lt {n : Nat} (h : n < 2 ^ 32) : step8 n < 2 ^ 32 := step4_lt (step4_lt h)
theorem reg_lt (l : List Nat) (hl : ∀ c ∈ l, c < 256) : ∀ r, r < 2 ^ 32 → reg r l < 2 ^ 32 := by
  induction l with
  | nil => intro r h; exact h
  | cons c l ih =>
    intro r h
    have hc := hl c (by simp)
    exact ih (fun d hd => hl d (by simp [hd])) _ (step8_lt (lt_xor h (by omega)))

/-- nothing but 0 is led to 0 -/
theorem step_zero {n : Nat} (h : n < 2 ^ 32) (h0 : step n = 0) : n = 0 := by
  unfold step at h0
  rcases (show n % 2 = 0 ∨ n % 2 = 1 by omega) with h1 | h1
  · rw [h1] at h0; simp at h0; omega
  · rw [h1, Nat.one_mul] at h0
    have : n / 2 = poly := by
      have h2 := congrArg (· ^^^ poly) h0
      simpa [Nat.xor_assoc] using h2
    unfold poly at this
    omega
theorem step4_zero {n : Nat} (h : n < 2 ^ 32) (h0 : step4 n = 0) : n = 0 :=
  step_zero h (step_zero (step_lt h) (step_zero (step_lt (step_lt h)) (step_zero (step_lt (step_lt (step_lt h))) h0)))
theorem step8_zero {n : Nat} (h : n < 2 ^ 32) (h0 : step8 n = 0) : n = 0 := step4_zero h (step4_zero (step4_lt h) h0)
theorem step8_shift (m : Nat) : step8 (256 * m) = m := by
  unfold step8
  rw [show 256 * m = 16 * (16 * m) by omega, step4_shift, step4_shift]
theorem xor_eq_zero {a b : Nat} (h : a ^^^ b = 0) : a = b := by
  have h2 := congrArg (· ^^^ b) h
  simpa [Nat.xor_assoc] using h2
theorem step8_small {n y : Nat} (h : n < 2 ^ 32) (hy : y < 2 ^ 24) (h0 : step8 n = y) : n = 256 * y := by
  have h1 : step8 (n ^^^ 256 * y) = 0 := by rw [step8_xor, step8_shift, h0, Nat.xor_self]
  exact xor_eq_zero (step8_zero (lt_xor h (by omega)) h1)

/-- the register is linear: what two rows' registers part by. -/
theorem reg_diff (l : List Nat) : ∀ r s, reg r l ^^^ reg s l = reg (r ^^^ s) (l.map fun _ => 0) := by
  induction l with
  | nil => intro r s; rfl
  | cons c l ih =>
    intro r s
    have h : step8 (r ^^^ c) ^^^ step8 (s ^^^ c) = step8 (r ^^^ s ^^^ 0) := by
      rw [← step8_xor, xx, Nat.xor_self]
    show reg _ l ^^^ reg _ l = reg _ _
    rw [ih, h]; rfl
theorem reg_zeros (l : List Nat) : ∀ r, r < 2 ^ 32 → reg r (l.map fun _ => 0) = 0 → r = 0 := by
  induction l with
  | nil => intro r _ h; exact h
  | cons c l ih =>
    intro r hr h
    have h1 := ih (step8 (r ^^^ 0)) (step8_lt (lt_xor hr (by omega))) h
    rw [Nat.xor_zero] at h1
    exact step8_zero hr h1
/-- four bytes, behind one register: unlike bytes, unlike registers. -/
theorem four (r a b c d a' b' c' d' : Nat) (ha : a < 256) (hb : b < 256) (hc : c < 256) (hd : d < 256) (ha' : a' < 256) (hb' : b' < 256) (hc' : c' < 256) (hd' : d' < 256)
    (h : reg r [a, b, c, d] = reg r [a', b', c', d']) : a = a' ∧ b = b' ∧ c = c' ∧ d = d' := by
  simp only [reg] at h
  have e0 := lt_xor (k := 8) ha ha'
  have e1 := lt_xor (k := 8) hb hb'
  have e2 := lt_xor (k := 8) hc hc'
  have e3 := lt_xor (k := 8) hd hd'
  have key : ∀ x y p q : Nat, step8 (x ^^^ p) ^^^ step8 (y ^^^ q) = step8 ((x ^^^ y) ^^^ (p ^^^ q)) := fun x y p q => by rw [← step8_xor, xx]
  have h0 := congrArg (· ^^^ step8 (step8 (step8 (step8 (r ^^^ a') ^^^ b') ^^^ c') ^^^ d')) h
  simp only [Nat.xor_self] at h0
  rw [key, key, key, key, Nat.xor_self, Nat.zero_xor] at h0
  have f3 : step8 (step8 (step8 (a ^^^ a') ^^^ (b ^^^ b')) ^^^ (c ^^^ c')) ^^^ (d ^^^ d') = 0 := by
    refine step8_zero (lt_xor (step8_lt (lt_xor (step8_lt (lt_xor (step8_lt (by omega)) (by omega))) (by omega))) (by omega)) h0
  have l2 := lt_xor (k := 32) (a := step8 (step8 (a ^^^ a') ^^^ (b ^^^ b'))) (b := c ^^^ c') (step8_lt (lt_xor (step8_lt (by omega)) (by omega))) (by omega)
  have g3 := xor_eq_zero f3
  have g2 := step8_small l2 (by omega) g3
  -- what the third left is below 2^16
  have k2 : step8 (step8 (a ^^^ a') ^^^ (b ^^^ b')) = (256 * (d ^^^ d')) ^^^ (c ^^^ c') := by
    rw [← g2, Nat.xor_assoc, Nat.xor_self, Nat.xor_zero]
  have m2 : (256 * (d ^^^ d')) ^^^ (c ^^^ c') < 2 ^ 16 := lt_xor (by omega) (by omega)
  have l1 := lt_xor (k := 32) (a := step8 (a ^^^ a')) (b := b ^^^ b') (step8_lt (by omega)) (by omega)
  have g1 := step8_small l1 (by omega) k2
  have k1 : step8 (a ^^^ a') = (256 * ((256 * (d ^^^ d')) ^^^ (c ^^^ c'))) ^^^ (b ^^^ b') := by
    rw [← g1, Nat.xor_assoc, Nat.xor_self, Nat.xor_zero]
  have m1 : (256 * ((256 * (d ^^^ d')) ^^^ (c ^^^ c'))) ^^^ (b ^^^ b') < 2 ^ 24 := lt_xor (by omega) (by omega)
  have g0 := step8_small (n := a ^^^ a') (by omega) m1 k1
  have z1 : (256 * ((256 * (d ^^^ d')) ^^^ (c ^^^ c'))) ^^^ (b ^^^ b') = 0 := by omega
  have za : a ^^^ a' = 0 := by omega
  have y1 := xor_eq_zero z1
  have z2 : (256 * (d ^^^ d')) ^^^ (c ^^^ c') = 0 := by omega
  have zb : b ^^^ b' = 0 := by omega
  have y2 := xor_eq_zero z2
  have zd : d ^^^ d' = 0 := by omega
  have zc : c ^^^ c' = 0 := by omega
  exact ⟨xor_eq_zero za, xor_eq_zero zb, xor_eq_zero zc, xor_eq_zero zd⟩
/-- THE LAW: two rows that are one but for four bytes side by side have one check just where these are the same. -/
theorem crc_four (l m : List Nat) (a b c d a' b' c' d' : Nat) (hl : ∀ x ∈ l, x < 256) (_hm : ∀ x ∈ m, x < 256) (ha : a < 256) (hb : b < 256) (hc : c < 256) (hd : d < 256) (ha' : a' < 256) (hb' : b' < 256) (hc' : c' < 256) (hd' : d' < 256) :
    crc (l ++ [a, b, c, d] ++ m) = crc (l ++ [a', b', c', d'] ++ m) ↔ a = a' ∧ b = b' ∧ c = c' ∧ d = d' := by
  constructor
  · intro h
    unfold crc at h
    have h1 : reg 4294967295 (l ++ [a, b, c, d] ++ m) = reg 4294967295 (l ++ [a', b', c', d'] ++ m) := by
      have := congrArg (4294967295 ^^^ ·) h
      simpa [← Nat.xor_assoc] using this
    rw [reg_append, reg_append, reg_append, reg_append] at h1
    have hr := reg_lt l hl 4294967295 (by decide)
    generalize reg 4294967295 l = r at h1 hr
    have h2 := congrArg (· ^^^ reg (reg r [a', b', c', d']) m) h1
    simp only [Nat.xor_self] at h2
    rw [reg_diff] at h2
    have hx := reg_lt [a, b, c, d] (by simp; omega) r hr
    have hy := reg_lt [a', b', c', d'] (by simp; omega) r hr
    exact four r _ _ _ _ _ _ _ _ ha hb hc hd ha' hb' hc' hd' (xor_eq_zero (reg_zeros m _ (lt_xor hx hy) h2))
  · rintro ⟨rfl, rfl, rfl, rfl⟩
    rfl
/-- the document's bit by bit step -/
def bitStep (n : Nat) : Nat := if n % 2 = 1 then (n / 2) ^^^ poly else n / 2
theorem bitStep_eq (n : Nat) : bitStep n = step n := by
  unfold bitStep step
  rcases (show n % 2 = 0 ∨ n % 2 = 1 by omega) with h1 | h1 <;> simp [h1]
end CrcPlain
end Go.Proofs.YtieipnnpkngegaaDoor
