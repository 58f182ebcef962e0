/- Maps of texts that are laid by a literal and ranged over once: each entry is good. -/
import Derived.Test.YtobnljndaabkaaaU
import Derived.Maps.StringElems
import Derived.Maps.RangeWalk
import Derived.Maps.Views
namespace Go.Proofs.Ytobnljndaabkaaa
open Go.RowKit Go.Maps

theorem key_str_inv {P : Program} {k : TypeId} (hk : P.underlying k = some .string) {key : Value} {kl : Lit} (h : keyOf P k key = some kl) : ∃ x : ByteArray, key = .string x ∧ kl = .string x.data.toList := by
  cases key <;> simp [keyOf, hk, mapKey] at h
  all_goals first | exact ⟨_, rfl, h.2.symm⟩ | exact ⟨_, rfl, h.symm⟩ | (obtain ⟨_, rfl⟩ := h; exact ⟨_, rfl, rfl⟩)
theorem key_str {P : Program} {k : TypeId} (hk : P.underlying k = some .string) (x : ByteArray) (hx : x.size ≤ maxLen) : keyOf P k (.string x) = some (.string x.data.toList) := by
  simp [keyOf, hk, mapKey, hx]

def GoodD (Good : ByteArray → ByteArray → Prop) (D : DataW Unit) : Prop :=
  IsMap D ∧ ∀ kl, has D kl = true → ∃ p s : ByteArray, kl = .string p.data.toList ∧ (∀ zd, D.atKey kl zd = .lit (.string s.data.toList)) ∧ Good p s
theorem GoodD.nil (Good : ByteArray → ByteArray → Prop) : GoodD Good (.map []) := ⟨isMap_empty, fun kl h => by simp [has] at h⟩
theorem GoodD.put {Good : ByteArray → ByteArray → Prop} {D : DataW Unit} (h : GoodD Good D) (p s : ByteArray) (hg : Good p s) : GoodD Good (D.put (.string p.data.toList) (.lit (.string s.data.toList))) := by
  obtain ⟨h1, h2⟩ := h
  have hk : WideAt.IsKeyLit (.string p.data.toList) := trivial
  refine ⟨?_, fun kl hl => ?_⟩
  · obtain ⟨es, rfl⟩ := h1
    exact ⟨_, rfl⟩
  · by_cases e : kl = .string p.data.toList
    · subst e
      exact ⟨p, s, rfl, fun zd => atKey_put_same h1 hk _ zd, hg⟩
    · rw [has_put_other e] at hl
      obtain ⟨p', s', e1, e2, e3⟩ := h2 kl hl
      exact ⟨p', s', e1, fun zd => by rw [atKey_put_other e]; exact e2 zd, e3⟩

/-- Block b is a map, every entry of which is good. -/
def MapG (Good : ByteArray → ByteArray → Prop) (P : Program) (k : TypeId) (b n : Nat) (w : World) : Prop := ∃ D : DataW Unit, w.ownsMap P k (plainElem P k) b n D ∧ GoodD Good D
theorem MapG.made (Good : ByteArray → ByteArray → Prop) (P : Program) (k : TypeId) (w : World) : MapG Good P k w.heap.size 0 (w.alloc (.map #[] 0)) :=
  ⟨_, World.ownsMap_made w P k _, GoodD.nil Good⟩
/-- Block r is an iterator over it; cnt entries are left. -/
def RanG (Good : ByteArray → ByteArray → Prop) (P : Program) (k : TypeId) (b r n cnt : Nat) (w : World) : Prop :=
  ∃ (D : DataW Unit) (left : Lit → Bool), w.ranges P k (plainElem P k) b r n D left cnt ∧ GoodD Good D ∧ ∀ kl, left kl = true → has D kl = true
theorem grown_no {w w' : World} (h : Keeps No w w') : w.grownBy w' none := ⟨h.os, h.tape, h.output, h.size, fun k hk _ => h.block k hk (fun x => x.elim)⟩
theorem RanG.keeps {Good : ByteArray → ByteArray → Prop} {P : Program} {k : TypeId} {b r n cnt : Nat} {w w' : World} (h : RanG Good P k b r n cnt w) (hk : Keeps No w w') : RanG Good P k b r n cnt w' := by
  obtain ⟨D, left, h1, h2, h3⟩ := h
  exact ⟨D, left, h1.kept (grown_no hk) (by simp) (by simp), h2, h3⟩
theorem RanG.left {Good : ByteArray → ByteArray → Prop} {P : Program} {k : TypeId} {b r n cnt : Nat} {w : World} (h : RanG Good P k b r n cnt w) : w.rangeLeft b r = cnt := by
  obtain ⟨D, left, h1, _, _⟩ := h
  exact h1.left_eq

theorem ins_run {P : Program} {Good : ByteArray → ByteArray → Prop} {k t : TypeId} {b n : Nat} {w0 w : World} (hk : P.underlying k = some .string) (ht : P.underlying t = some (.map k k)) (h : MapG Good P k b n w) (hw : Keeps No w0 w) (hb : w0.heap.size ≤ b) (hn : n < 1000)
    (p s : ByteArray) (hp : p.size ≤ 1000) (hs : s.size ≤ 1000) (hgd : Good p s) :
    ∃ w', (Instr.mapUpdate t (.map (some b)) (.string p) (.string s)).run P w = .ok () w' ∧ MapG Good P k b (n + 1) w' ∧ Keeps No w0 w' := by
  obtain ⟨D, hown, hD⟩ := h
  have hm1 : (1000 : Nat) < maxLen := by decide
  obtain ⟨w', hrun, r1, r2⟩ := hown.update (string_keyed hk) ht (by omega) (key_str hk p (by omega)) (plainElem_string hk (s := s) (by omega))
  exact ⟨w', hrun, ⟨_, r1, hD.put p s hgd⟩, hw.grown r2 (fun i hi => Or.inr (by cases hi; exact hb))⟩

theorem rng_run {P : Program} {Good : ByteArray → ByteArray → Prop} {k t : TypeId} {b n : Nat} {w0 w : World} (hk : P.underlying k = some .string) (ht : P.underlying t = some (.map k k)) (h : MapG Good P k b n w) (hw : Keeps No w0 w) :
    ∃ w' cnt, (Instr.range t (.map (some b))).run P w = .ok (.pointer (some ⟨w.heap.size, 0, none⟩)) w' ∧ RanG Good P k b w.heap.size n cnt w' ∧ Keeps No w0 w' := by
  obtain ⟨D, hown, hD⟩ := h
  obtain ⟨w', hrun, h1, h2, _⟩ := hown.range (string_keyed hk) ht
  exact ⟨w', _, hrun, ⟨D, _, h1, hD, fun _ h => h⟩, hw.grown h2 (fun i hi => by cases hi)⟩

theorem nxt_run {P : Program} {Good : ByteArray → ByteArray → Prop} {k : TypeId} {b r n cnt : Nat} {w0 w : World} (ty : TypeId) (hk : P.underlying k = some .string) (h : RanG Good P k b r n cnt w) (hw : Keeps No w0 w) (hr : w0.heap.size ≤ r) :
    (Instr.next (.pointer (some ⟨r, 0, none⟩)) false ty).run P w = .ok (.tuple #[.bool false]) w ∨
    ∃ p s w' cnt', (Instr.next (.pointer (some ⟨r, 0, none⟩)) false ty).run P w = .ok (.tuple #[.bool true, .string p, .string s]) w' ∧ Good p s ∧ RanG Good P k b r n cnt' w' ∧ cnt' < cnt ∧ Keeps No w0 w' ∧
      (Instr.entry (.pointer (some ⟨r, 0, none⟩))).run P w' = .ok (.tuple #[.string p, .string s]) w' := by
  obtain ⟨D, left, hr', hD, hl⟩ := h
  rcases hr'.next (string_keyed hk) ty with ⟨_, _, hrun⟩ | ⟨key, v, kl, y, w', cnt', hkey, hlk, hv, hat, hrun, hrg, hlt, hgr, _, hen⟩
  · exact Or.inl hrun
  · obtain ⟨x, rfl, rfl⟩ := key_str_inv hk hkey
    obtain ⟨c, rfl, rfl, _⟩ := plainElem_string_inv hk hv
    obtain ⟨p, s, e1, e2, e3⟩ := hD.2 _ (hl _ hlk)
    have hx : x = p := by
      injection e1 with e1
      exact ByteArray.ext (Array.toList_inj.1 e1)
    have hc : c = s := by
      have := (hat (.lit (.string []))).symm.trans (e2 (.lit (.string [])))
      simp only [DataW.lit.injEq, Lit.string.injEq] at this
      exact ByteArray.ext (Array.toList_inj.1 this)
    subst hx hc
    exact Or.inr ⟨x, c, w', cnt', hrun, e3, ⟨D, _, hrg, hD, fun z hz => hl z (by simp at hz; exact hz.1)⟩, hlt, hw.grown hgr (fun i hi => Or.inr (by cases hi; exact hr)), hen⟩
end Go.Proofs.Ytobnljndaabkaaa
