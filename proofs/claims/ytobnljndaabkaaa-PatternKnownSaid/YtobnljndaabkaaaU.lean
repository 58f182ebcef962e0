/- Words that all walks of this seat use: bytes in memory, a slice that is read, what a call leaves as it was. -/
import Derived.Test.YtobnljndaabkaaaWWords
import Derived.WalkLawsBesides
import Derived.WalkSpells
import Derived.Lib.Hide
import Derived.Deep.DeepFit
import Derived.Lib.SliceRun
import Derived.Lib.SlBytesConst
namespace Go.Proofs.Ytobnljndaabkaaa
open Go.RowKit Go.Proofs.YtobnljndaabkaaaW.PrintWords

/-- A byte as a cell. -/
def B8 (c : UInt8) : Value := .int .u8 c.toNat
theorem B8_def (c : UInt8) : B8 c = .int .u8 c.toNat := rfl
theorem B8_one (c : UInt8) : (B8 c).oneCell' = true := rfl
/-- Bytes that a slice reads as. -/
def Rd (w : World) (A : Option Addr) (n : Nat) (l : List UInt8) : Prop := ReadsOf B8 0 w A n l
/-- A row of bytes that the call has made. -/
def Ow (w : World) (base : Nat) (v : Value) (l : List UInt8) : Prop := w.ownsRow base 5 1 v l.length (encs B8 l)

/-- WHAT A CALL LEAVES: every block that was there and isn't one of S is as it was. -/
structure Keeps (S : Nat → Prop) (w w' : World) : Prop where
  os : w'.os = w.os
  tape : w'.tape = w.tape
  output : w'.output = w.output
  size : w.heap.size ≤ w'.heap.size
  block : ∀ k, k < w.heap.size → ¬ S k → w'.heap[k]? = w.heap[k]?
def No : Nat → Prop := fun _ => False
theorem Keeps.refl (S : Nat → Prop) (w : World) : Keeps S w w := ⟨rfl, rfl, rfl, Nat.le_refl _, fun _ _ _ => rfl⟩
theorem Keeps.trans {S S1 : Nat → Prop} {a b c : World} (h : Keeps S a b) (k : Keeps S1 b c) (hs : ∀ i, S1 i → S i ∨ a.heap.size ≤ i) : Keeps S a c :=
  ⟨k.os.trans h.os, k.tape.trans h.tape, k.output.trans h.output, Nat.le_trans h.size k.size, fun i hi hn => (k.block i (Nat.lt_of_lt_of_le hi h.size) (fun h1 => by rcases hs i h1 with h2 | h2; exact hn h2; omega)).trans (h.block i hi hn)⟩
theorem Keeps.then {S : Nat → Prop} {a b c : World} (h : Keeps S a b) (k : Keeps No b c) : Keeps S a c := h.trans k (fun _ h => h.elim)
theorem Keeps.mono {S S1 : Nat → Prop} {a b : World} (h : Keeps S a b) (hs : ∀ i, S i → S1 i) : Keeps S1 a b := ⟨h.os, h.tape, h.output, h.size, fun i hi hn => h.block i hi (fun h1 => hn (hs i h1))⟩
theorem Keeps.alloc {S : Nat → Prop} {a w : World} (h : Keeps S a w) (o : Obj) : Keeps S a (w.alloc o) :=
  h.trans (S1 := No) ⟨rfl, rfl, rfl, by simp, fun k hk _ => Below.heap_alloc _ _ _ (by omega)⟩ (fun _ h => h.elim)
theorem Keeps.setCell {S : Nat → Prop} {a w : World} (h : Keeps S a w) {p : Addr} (hp : S p.block ∨ a.heap.size ≤ p.block) (u : Value) : Keeps S a (w.setCell p u) :=
  h.trans (S1 := fun i => i = p.block) ⟨rfl, rfl, rfl, by simp [World.setCell], fun k _ hk => Below.heap_setCell _ _ _ _ hk⟩ (fun i hi => by subst hi; exact hp)
theorem Keeps.drew {S : Nat → Prop} {a w : World} (h : Keeps S a w) : Keeps S a w.drew := ⟨h.os, h.tape, h.output, h.size, h.block⟩
theorem Keeps.drewN {S : Nat → Prop} {a w : World} (h : Keeps S a w) (n : Nat) : Keeps S a (w.drewN n) := ⟨h.os, h.tape, h.output, h.size, h.block⟩
theorem Keeps.of_below {a w : World} (h : Below a.heap.size a w) : Keeps No a w := ⟨h.os, h.tape, h.output, h.size, fun i hi _ => h.block i hi⟩
theorem Keeps.below {a w : World} {S : Nat → Prop} (h : Keeps S a w) {B : Nat} (hB : B ≤ a.heap.size) (hS : ∀ i, S i → B ≤ i) : Below B a w := ⟨h.os, h.tape, h.output, h.size, fun i hi => h.block i (by omega) (fun h1 => by have := hS i h1; omega)⟩
theorem Keeps.below' {a w : World} (h : Keeps No a w) : Below a.heap.size a w := h.below (Nat.le_refl _) (fun _ h => h.elim)
theorem Keeps.of_grown {a w : World} {row : Option Nat} (h : a.grownBy w row) : Keeps (fun k => row = some k) a w := ⟨h.os, h.tape, h.output, h.size, fun i hi hn => h.block i hi (fun e => hn e.symm)⟩
theorem Keeps.grown {S : Nat → Prop} {a w w1 : World} (h : Keeps S a w) {row : Option Nat} (hg : w.grownBy w1 row) (hs : ∀ k, row = some k → S k ∨ a.heap.size ≤ k) : Keeps S a w1 := h.trans (Keeps.of_grown hg) hs
theorem Keeps.heap {S : Nat → Prop} {a w : World} (h : Keeps S a w) {k : Nat} {o : Obj} (ho : a.heap[k]? = some o) (hk : ¬ S k) : w.heap[k]? = some o := (h.block k (blk_lt ho) hk).trans ho
theorem Keeps.cell {S : Nat → Prop} {a w : World} (h : Keeps S a w) {p : Addr} {v : Value} (hc : a.cell? p = some v) (hk : ¬ S p.block) : w.cell? p = some v :=
  (World.cell?_of_block (w := a) (h.block p.block (World.block_lt_of_cell? a p hc) hk)).trans hc
theorem Keeps.own {S : Nat → Prop} {a w : World} (h : Keeps S a w) {base : Nat} {e : TypeId} {size n : Nat} {v : Value} {xs : List Value} (ho : a.ownsRow base e size v n xs) (hk : ∀ k, v.ownBlock = some k → ¬ S k) : w.ownsRow base e size v n xs := by
  obtain ⟨h1, h2⟩ := ho
  refine ⟨h1, ?_⟩
  rcases h2 with h2 | ⟨g, cap, cur, rfl, hg, hh, r⟩
  · exact .inl h2
  · exact .inr ⟨g, cap, cur, rfl, hg, h.heap hh (hk g rfl), r⟩
theorem Keeps.rds {S : Nat → Prop} {α : Type} {enc : α → Value} {d : α} {a w : World} (h : Keeps S a w) {A : Option Addr} {n : Nat} {l : List α} (hr : ReadsOf enc d a A n l) (hk : ∀ ad, A = some ad → 0 < n → ¬ S ad.block) : ReadsOf enc d w A n l :=
  ⟨hr.1, hr.2.1, fun hn => by
    obtain ⟨ad, e, hc⟩ := hr.2.2 hn
    refine ⟨ad, e, fun j hj => h.cell (hc j hj) ?_⟩
    have hb : (ad.add j).block = ad.block := by unfold Addr.add; split <;> rfl
    rw [hb]
    exact hk ad e hn⟩
theorem Keeps.rd {S : Nat → Prop} {a w : World} (h : Keeps S a w) {A : Option Addr} {n : Nat} {l : List UInt8} (hr : Rd a A n l) (hk : ∀ ad, A = some ad → 0 < n → ¬ S ad.block) : Rd w A n l := h.rds hr hk
theorem Keeps.rdNo {a w : World} (h : Keeps No a w) {A : Option Addr} {n : Nat} {l : List UInt8} (hr : Rd a A n l) : Rd w A n l := h.rd hr (fun _ _ _ h => h)

theorem Rd.len {w : World} {A : Option Addr} {n : Nat} {l : List UInt8} (h : Rd w A n l) : l.length = n := h.1
theorem Rd.nil (w : World) : Rd w none 0 [] := ⟨rfl, by omega, fun h => absurd h (by omega)⟩
theorem Rd.nil' (w : World) (A : Option Addr) : Rd w A 0 [] := ⟨rfl, by omega, fun h => absurd h (by omega)⟩
theorem Rd.at {w : World} {A : Option Addr} {n : Nat} {l : List UInt8} (h : Rd w A n l) (i : Nat) (hi : i < n) : ∃ ad, A = some ad ∧ w.cell? (ad.add i) = some (.int .u8 (l.getD i 0).toNat) := by
  obtain ⟨ad, e, hc⟩ := h.2.2 (by omega)
  exact ⟨ad, e, hc i hi⟩
theorem Rd.take {w : World} {A : Option Addr} {n : Nat} {l : List UInt8} (h : Rd w A n l) (i : Nat) (hi : i ≤ n) : Rd w A i (l.take i) := ReadsOf.take_ h i hi
theorem Rd.drop {w : World} {A : Option Addr} {n c : Nat} {l : List UInt8} (h : Rd w A n l) (i : Nat) (hi : i ≤ n) (hc : n ≤ c) : Rd w (if c = i then A else A.map (·.add i)) (n - i) (l.drop i) := ReadsOf.drop_ h i hi hc
theorem Ow.nil (w : World) (base : Nat) : Ow w base (.slice none 0 0) [] := own_nil w base _ _
theorem Ow.rd {w : World} {base : Nat} {v : Value} {l : List UInt8} (h : Ow w base v l) : ∃ A c, v = .slice A l.length c ∧ l.length ≤ c ∧ Rd w A l.length l := by
  obtain ⟨A, c, e, hr⟩ := own_reads_of (d := (0 : UInt8)) h
  refine ⟨A, c, e, ?_, hr⟩
  rcases h.2 with ⟨rfl, _⟩ | ⟨g, cap, cur, rfl, _, _, hle, _⟩
  · injection e with _ e1 e2; omega
  · injection e with _ e1 e2; omega
theorem Ow.len {w : World} {base : Nat} {v : Value} {l : List UInt8} (h : Ow w base v l) : l.length ≤ 9223372036854775807 := by
  obtain ⟨A, c, _, _, hr⟩ := h.rd
  exact hr.2.1
theorem Keeps.ow {S : Nat → Prop} {a w : World} (h : Keeps S a w) {base : Nat} {v : Value} {l : List UInt8} (ho : Ow a base v l) (hk : ∀ k, v.ownBlock = some k → ¬ S k) : Ow w base v l := h.own ho hk
theorem Keeps.owNo {a w : World} (h : Keeps No a w) {base : Nat} {v : Value} {l : List UInt8} (ho : Ow a base v l) : Ow w base v l := h.own ho (fun _ _ h => h)
theorem ret_eq {a b : Value} (h : a = b) : Ending.returned a = .returned b := by rw [h]
theorem str_eq {a b : ByteArray} (h : a.data.toList = b.data.toList) : Value.string a = .string b := by
  congr 1
  cases a; cases b
  congr 1
  exact Array.toList_inj.1 h
/-- []byte(s): the bytes of s, in new memory. -/
theorem rd_bytes (W : World) (e : TypeId) (s : ByteArray) (hs : s.size ≤ 9223372036854775807) : Rd (Lib.bytesWorld W e s) (some ⟨W.heap.size, 0, none⟩) s.size s.data.toList := by
  refine ⟨data_length s, hs, fun _ => ⟨_, rfl, fun j hj => ?_⟩⟩
  rw [add_plain, Lib.bytesWorld_cell W e s j hj]
  have h' : j < s.data.toList.length := by rw [data_length]; exact hj
  simp [B8, List.getD_eq_getElem?_getD, List.getElem?_eq_getElem h']
theorem keeps_bytes (W : World) (e : TypeId) (s : ByteArray) : Keeps No W (Lib.bytesWorld W e s) := .of_below (bytes_below (Below.refl _ _) (Nat.le_refl _) e s)
theorem rd_ints {w : World} {A : Option Addr} {n : Nat} {l : List UInt8} (h : Rd w A n l) : ReadsInt w .u8 A n (l.map fun c => (c.toNat : Int)) := by
  refine ⟨by simpa using h.1, h.2.1, fun hn => ?_⟩
  obtain ⟨ad, e, hc⟩ := h.2.2 hn
  refine ⟨ad, e, fun j hj => ?_⟩
  have hl : j < l.length := by have := h.1; omega
  rw [hc j hj]
  simp [B8, List.getD_eq_getElem?_getD, List.getElem?_eq_getElem hl]
/-- string(b). -/
theorem rd_string {P : Program} {w : World} {src dst e : TypeId} {A : Option Addr} {n : Nat} {l : List UInt8} (hs : P.underlying src = some (.slice e)) (he : P.underlying e = some (.int .u8)) (hd : P.underlying dst = some .string) (h : Rd w A n l) (c : Nat) :
    (convert src dst (.slice A n c)).run P w = .ok (.string ⟨l.toArray⟩) w := by
  have e : strOfNums (l.map fun c => (c.toNat : Int)) = ⟨l.toArray⟩ := by
    unfold strOfNums
    congr 2
    rw [List.map_map]
    conv => rhs; rw [← List.map_id l]
    exact List.map_congr_left fun c _ => by simp
  rw [string_of_reads hs he hd (rd_ints h), e]
/-- A literal of bytes, be it marked or not. -/
theorem rd_mark (w : World) (cs : Array Value) (b : Nat) (l : List UInt8) (n : Nat) (fr : Nat × Nat) (hc : cs = (encs B8 l).toArray) (hn : l.length = n) (h : n ≤ 9223372036854775807) (hb : b = w.heap.size) : Rd (w.alloc (.cells cs 5 fr)) (some ⟨b, 0, none⟩) n l := by
  subst hc; subst hn; subst hb
  refine ⟨rfl, h, fun _ => ⟨_, rfl, fun j hj => ?_⟩⟩
  rw [add_plain, World.cell?_alloc_mark]
  have := encs_get (enc := B8) (d := 0) l j hj
  simpa using this
/-- What a row's step hands on of a slice of bytes. -/
theorem rd_of_row {w : World} {a : Option Addr} {len cap : Nat} {zs : List Int} (h : (a = none ∧ len = 0 ∧ cap = 0 ∧ zs = []) ∨
    ∃ x, a = some x ∧ len ≤ cap ∧ cap ≤ maxLen ∧ zs.length = cap ∧ (∀ i, i < zs.length → w.cell? (x.add i) = some (.int .u8 (zs.getD i 0))) ∧ ∀ n ∈ zs, (Lit.int .u8 n).wf = true) :
    ∃ l : List UInt8, Rd w a len l ∧ len ≤ cap ∧ cap ≤ 9223372036854775807 := by
  rcases h with ⟨rfl, rfl, rfl, rfl⟩ | ⟨x, rfl, hl, hm, hz, hc, hw⟩
  · exact ⟨[], Rd.nil _, by omega, by omega⟩
  · unfold maxLen at hm
    refine ⟨(zs.take len).map fun n => UInt8.ofNat n.toNat, ⟨by simp; omega, by omega, fun _ => ⟨x, rfl, fun j hj => ?_⟩⟩, hl, by omega⟩
    have hjz : j < zs.length := by omega
    rw [hc j hjz]
    have hx : zs.getD j 0 = zs[j] := by simp [List.getD_eq_getElem?_getD, List.getElem?_eq_getElem hjz]
    have hwf := hw zs[j] (List.getElem_mem hjz)
    have hb : 0 ≤ zs[j] ∧ zs[j] ≤ 255 := by simpa [Lit.wf, IntKind.min, IntKind.max, IntKind.signed, IntKind.bits] using hwf
    have he : ((zs.take len).map fun n => UInt8.ofNat n.toNat).getD j 0 = UInt8.ofNat zs[j].toNat := by
      simp [List.getD_eq_getElem?_getD, List.getElem?_map, hj, List.getElem?_eq_getElem hjz]
    rw [he, hx, B8]
    congr 2
    simp
    omega
/-- The smaller of a length and a numeral: laid ahead of a walk it keeps the walk in one piece. -/
theorem min_num (n m : Nat) (M : Int) (hM : M = m) (ats : Array TypeId) (ty : TypeId) : Builtin.min_ ats ty #[.int .i64 (n : Int), .int .i64 M] = pure (.int .i64 ((min n m : Nat) : Int)) := by
  subst hM
  simp only [Builtin.min_, List.foldlM_cons, List.foldlM_nil, Builtin.min2]
  have : (if (m : Int) < (n : Int) then (m : Int) else (n : Int)) = ((min n m : Nat) : Int) := by split <;> omega
  rw [this]; rfl
section
variable {P : Program} {ops : Array Oper} {rest : List Oper} {o : Oper} {a : Act} {Q : Exit → Act → World → Prop}
/-- append(v, x), x of several cells: the box's block by any name. -/
theorem app_cells {w0 W : World} (base : Nat) (b : Nat) (hgd : o.guard = none) (s x : Operand) (t e : TypeId) (z : Value) (size bytes : Nat)
    (ho : o.op = .call { callee := .builtin .append, args := #[s, x], argTypes := #[t, t] })
    (ht : P.underlying t = some (.slice e)) (hinfo : (P.info? e).map (fun i => (i.zero, i.size, i.bytes)) = some (some z, size, bytes)) (hz : z.cells.size = size) (hs0 : 0 < size) (hb0 : 0 < bytes)
    (v : Value) (n : Nat) (xs ys : List Value) (hs : a.eval s = v) (hx : a.eval x = .slice (some ⟨b, 0, none⟩) 1 1) (hb : b = W.heap.size) (hys : ys.length = size) (h1 : ∀ u ∈ ys, u.oneCell' = true)
    (HO : W.ownsRow base e size v n xs) (HB : Below base w0 W) (hbase : base ≤ W.heap.size) (hl : (n + 1) * bytes ≤ 140737488355328)
    (h : ∀ v1 w1, w1.ownsRow base e size v1 (n + 1) (xs ++ ys) → Below base w0 w1 → W.grownBy w1 v.ownBlock → (v1.ownBlock = v.ownBlock ∨ ∃ b, v1.ownBlock = some b ∧ W.heap.size ≤ b) → wpList P ops Q rest (a.put o.dst v1) w1) :
    wpList P ops Q (o :: rest) a (W.alloc (.cells ys.toArray e)) := by
  subst hb
  exact print_append_cells base hgd s x t e z size bytes ho ht hinfo hz hs0 hb0 v n xs ys hs hx hys h1 HO HB hbase hl h
end
end Go.Proofs.Ytobnljndaabkaaa
