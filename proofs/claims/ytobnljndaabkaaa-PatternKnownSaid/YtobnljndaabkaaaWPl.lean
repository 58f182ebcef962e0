/- Patterns in plain Lean: their pieces, what a text of bytes means; greedy matching is matching. -/
namespace Go.Proofs.Ytobnljndaabkaaa.PatL
abbrev T := List UInt8

/-- A byte, perhaps behind a backslash, from the front. -/
def taken : T → UInt8 × T
  | [] => (0, [])
  | [a] => (a, [])
  | a :: b :: l => if a = 92 then (b, l) else (a, b :: l)
theorem taken_len (l : T) (h : l ≠ []) : (taken l).2.length < l.length := by
  match l with
  | [] => exact absurd rfl h
  | [a] => simp [taken]
  | a :: b :: l => simp only [taken]; split <;> simp <;> omega
theorem taken_le (l : T) : (taken l).2.length ≤ l.length := by
  by_cases h : l = []
  · subst h; simp [taken]
  · have := taken_len l h; omega
theorem taken_gap (l : T) : l.length ≤ (taken l).2.length + 2 := by
  match l with
  | [] => simp
  | [a] => simp [taken]
  | a :: b :: l => simp only [taken]; split <;> simp <;> omega
theorem taken_drop (l : T) : (taken l).2 = l.drop (l.length - (taken l).2.length) := by
  match l with
  | [] => simp [taken]
  | [a] => simp [taken]
  | a :: b :: l =>
    simp only [taken]
    split
    · rw [show (a :: b :: l).length - l.length = 2 by simp; omega]; rfl
    · rw [show (a :: b :: l).length - (b :: l).length = 1 by simp]; rfl

def addR (S : Nat → Bool) (a b : UInt8) : Nat → Bool := fun c => S c || (decide (a.toNat ≤ c) && decide (c ≤ b.toNat))
/-- One item of a set: from, to, what is left. -/
def item (l : T) : UInt8 × UInt8 × T :=
  match (taken l).2 with
  | 45 :: x :: r => if x = 93 then ((taken l).1, (taken l).1, 45 :: x :: r) else ((taken l).1, (taken (x :: r)).1, (taken (x :: r)).2)
  | r => ((taken l).1, (taken l).1, r)
theorem item_len (l : T) (h : l ≠ []) : (item l).2.2.length < l.length := by
  have h1 := taken_len l h
  unfold item
  split
  · rename_i x r e
    rw [e] at h1
    split
    · exact h1
    · have := taken_len (x :: r) (by simp); simp at *; omega
  · exact h1
/-- The items up to the closing bracket. -/
def clo : Nat → Bool → (Nat → Bool) → T → (Nat → Bool) × T
  | 0, _, S, l => (S, l)
  | _ + 1, _, S, [] => (S, [])
  | n + 1, first, S, c :: l => if first = false ∧ c = 93 then (S, c :: l) else clo n false (addR S (item (c :: l)).1 (item (c :: l)).2.1) (item (c :: l)).2.2
theorem clo_more : ∀ (n m : Nat) (first : Bool) (S : Nat → Bool) (l : T), l.length ≤ n → l.length ≤ m → clo n first S l = clo m first S l
  | 0, 0, _, _, _, _, _ => rfl
  | 0, m + 1, _, _, l, h, _ => by have : l = [] := List.length_eq_zero_iff.1 (by omega); subst this; rfl
  | n + 1, 0, _, _, l, _, h => by have : l = [] := List.length_eq_zero_iff.1 (by omega); subst this; rfl
  | n + 1, m + 1, first, S, [], _, _ => rfl
  | n + 1, m + 1, first, S, c :: l, h1, h2 => by
    have := item_len (c :: l) (by simp)
    unfold clo
    split
    · rfl
    · exact clo_more n m _ _ _ (by simp at *; omega) (by simp at *; omega)
def cloF (first : Bool) (S : Nat → Bool) (l : T) : (Nat → Bool) × T := clo l.length first S l
theorem cloF_nil (first : Bool) (S : Nat → Bool) : cloF first S [] = (S, []) := rfl
theorem cloF_stop (S : Nat → Bool) (l : T) : cloF false S (93 :: l) = (S, 93 :: l) := by simp [cloF, clo]
theorem cloF_go (first : Bool) (S : Nat → Bool) (c : UInt8) (l : T) (h : ¬ (first = false ∧ c = 93)) :
    cloF first S (c :: l) = cloF false (addR S (item (c :: l)).1 (item (c :: l)).2.1) (item (c :: l)).2.2 := by
  have := item_len (c :: l) (by simp)
  unfold cloF
  rw [List.length_cons, clo, if_neg h]
  exact clo_more _ _ _ _ _ (by simp at *; omega) (Nat.le_refl _)
theorem cloF_len (n : Nat) : ∀ (first : Bool) (S : Nat → Bool) (l : T), l.length ≤ n → (cloF first S l).2.length ≤ l.length := by
  induction n with
  | zero => intro _ _ l h; have : l = [] := List.length_eq_zero_iff.1 (by omega); subst this; simp [cloF_nil]
  | succ n ih =>
    intro first S l h
    cases l with
    | nil => simp [cloF_nil]
    | cons c l =>
      by_cases hs : first = false ∧ c = 93
      · obtain ⟨rfl, rfl⟩ := hs; rw [cloF_stop]; exact Nat.le_refl _
      · rw [cloF_go _ _ _ _ hs]
        have := item_len (c :: l) (by simp)
        have := ih false (addR S (item (c :: l)).1 (item (c :: l)).2.1) (item (c :: l)).2.2 (by simp at *; omega)
        omega
/-- What is left begins with the bracket, or there is nothing. -/
theorem cloF_end (n : Nat) : ∀ (first : Bool) (S : Nat → Bool) (l : T), l.length ≤ n → (cloF first S l).2 = [] ∨ ∃ r, (cloF first S l).2 = 93 :: r := by
  induction n with
  | zero => intro _ _ l h; have : l = [] := List.length_eq_zero_iff.1 (by omega); subst this; exact .inl rfl
  | succ n ih =>
    intro first S l h
    cases l with
    | nil => exact .inl rfl
    | cons c l =>
      by_cases hs : first = false ∧ c = 93
      · obtain ⟨rfl, rfl⟩ := hs; rw [cloF_stop]; exact .inr ⟨l, rfl⟩
      · rw [cloF_go _ _ _ _ hs]
        have := item_len (c :: l) (by simp)
        exact ih false _ _ (by simp at *; omega)
def not_ (b : Bool) (S : Nat → Bool) : Nat → Bool := fun c => S c != b
/-- Behind '!', or not. -/
def bang : T → Bool × T
  | 33 :: l => (true, l)
  | l => (false, l)
/-- A set behind its bracket. -/
def closed (l : T) : Option ((Nat → Bool) × T) :=
  match (cloF true (fun _ => false) (bang l).2).2 with
  | [] => none
  | _ :: r => some (not_ (bang l).1 (cloF true (fun _ => false) (bang l).2).1, r)
/-- A piece: any bytes, or one of a set; own: a byte for itself. -/
structure Pc where
  any : Bool
  own : Bool
  set : Nat → Bool
def star : Pc := ⟨true, false, fun _ => false⟩
def one (c : UInt8) : Pc := ⟨false, true, fun x => decide (x = c.toNat)⟩
def plain (l : T) : Pc × T := (one (taken l).1, (taken l).2)
def piece (l : T) : Pc × T :=
  match l with
  | 42 :: r => (star, r)
  | 63 :: r => (⟨false, false, fun _ => true⟩, r)
  | 91 :: r => match closed r with
    | some (S, q) => (⟨false, false, S⟩, q)
    | none => plain (91 :: r)
  | l => plain l
theorem closed_len (l : T) (S : Nat → Bool) (r : T) (h : closed l = some (S, r)) : r.length < l.length := by
  unfold closed at h
  split at h
  · cases h
  · rename_i c q e
    injection h with h; injection h with _ h; subst h
    have := cloF_len _ true (fun _ => false) (bang l).2 (Nat.le_refl _)
    rw [e] at this
    have hb : (bang l).2.length ≤ l.length := by unfold bang; split <;> simp
    simp at this; omega
theorem plain_len (l : T) (h : l ≠ []) : (plain l).2.length < l.length := taken_len l h
theorem piece_len (l : T) (h : l ≠ []) : (piece l).2.length < l.length := by
  unfold piece
  split
  · simp
  · simp
  · rename_i r
    split
    · rename_i S q e
      have := closed_len r S q e; simp; omega
    · exact plain_len _ (by simp)
  · exact plain_len l h
def pieces : Nat → T → List Pc
  | 0, _ => []
  | _ + 1, [] => []
  | n + 1, c :: l => (piece (c :: l)).1 :: pieces n (piece (c :: l)).2
theorem pieces_more : ∀ (n m : Nat) (l : T), l.length ≤ n → l.length ≤ m → pieces n l = pieces m l
  | 0, 0, _, _, _ => rfl
  | 0, m + 1, l, h, _ => by have : l = [] := List.length_eq_zero_iff.1 (by omega); subst this; rfl
  | n + 1, 0, l, _, h => by have : l = [] := List.length_eq_zero_iff.1 (by omega); subst this; rfl
  | n + 1, m + 1, [], _, _ => rfl
  | n + 1, m + 1, c :: l, h1, h2 => by
    have := piece_len (c :: l) (by simp)
    unfold pieces
    rw [pieces_more n m _ (by simp at *; omega) (by simp at *; omega)]
def piecesF (l : T) : List Pc := pieces l.length l
theorem piecesF_nil : piecesF [] = [] := rfl
theorem piecesF_cons (l : T) (h : l ≠ []) : piecesF l = (piece l).1 :: piecesF (piece l).2 := by
  have h1 := piece_len l h
  unfold piecesF
  cases l with
  | nil => exact absurd rfl h
  | cons c l =>
    rw [List.length_cons, pieces]
    rw [pieces_more l.length _ _ (by simp at h1; omega) (Nat.le_refl _)]
theorem piecesF_len : ∀ (n : Nat) (l : T), l.length ≤ n → (piecesF l).length ≤ l.length
  | 0, l, h => by have : l = [] := List.length_eq_zero_iff.1 (by omega); subst this; exact Nat.le_refl _
  | n + 1, l, h => by
    by_cases hl : l = []
    · subst hl; exact Nat.le_refl _
    · have := piece_len l hl
      have := piecesF_len n (piece l).2 (by omega)
      rw [piecesF_cons l hl]; simp; omega
/-- Whether pieces match a text. -/
def mt : List Pc → List UInt8 → Bool
  | [], s => s.isEmpty
  | p :: l, [] => p.any && mt l []
  | p :: l, c :: s => if p.any then mt l (c :: s) || mt (p :: l) s else p.set c.toNat && mt l s
termination_by l s => (l.length, s.length)
/-- A point at the front. -/
def point (l : List Pc) (s : T) : Bool :=
  match s with
  | [] => false
  | c :: _ => decide (c = 46) && (match l with | [] => true | p :: _ => !p.own || !p.set 46)
def mtch (p s : T) : Bool := !point (piecesF p) s && mt (piecesF p) s
def alive (p : T) : Bool := (piecesF p).any (fun x => !x.own)
def special (c : UInt8) : Bool := decide (c = 42) || (decide (c = 63) || (decide (c = 91) || decide (c = 92)))
def quote (s : T) : T := s.flatMap fun c => if special c = true then [92, c] else [c]
end Go.Proofs.Ytobnljndaabkaaa.PatL
