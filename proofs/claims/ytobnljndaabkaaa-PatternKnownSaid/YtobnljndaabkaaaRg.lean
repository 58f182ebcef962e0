/- A region that draws its order, walked by hand: what is held may grow stronger on the way. -/
import Derived.Test.YtobnljndaabkaaaU
import Derived.Deep.RegionHeld3
namespace Go.Proofs.Ytobnljndaabkaaa
section
variable {P : Program} {ops : Array Oper} {Q : Exit → Act → World → Prop} {md : Region.Mode} {S S' : World → Prop}
/-- What is held may be made stronger: the world at hand must meet it. -/
theorem wpAnyH_strong (hS : ∀ w, S' w → S w) : ∀ (fuel : Nat) (listed : Array Bool) (a : Act) (w : World), wpAnyH P md ops Q S' fuel listed a w → wpAnyH P md ops Q S fuel listed a w
  | 0, _, _, _, h => h
  | fuel + 1, _, _, _, h => ⟨h.1, fun i hi => wpOp_mono (fun a' w' h' => ⟨hS _ h'.1, wpAnyH_strong hS fuel _ a' w' h'.2⟩) (h.2 i hi)⟩
/-- The one operation that may come up: it is carried out. -/
theorem wpAnyH_only {i : Nat} {fuel : Nat} {listed : Array Bool} {a : Act} {w : World} {o : Oper} (hr : Region.ready md ops listed = [i]) (ho : ops[i]? = some o)
    (h : ∀ K' : Act → World → Prop, Shut (∀ a w, (S w ∧ wpAnyH P md ops Q S fuel (listed.setIfInBounds i true) a w) → K' a w) → if Region.wanted o (yielded ops a.tmps) = true then Oper.wp P o a w K' Q else K' (a.put o.dst undef) w) :
    wpAnyH P md ops Q S (fuel + 1) listed a w :=
  wpAnyH_all hr (by simp) (fun j hj => by
    rcases List.mem_singleton.1 hj with rfl
    exact wpOp_step ho (fun K' hK => h K' hK))
/-- An operation that only reads, taken first: the slot that it writes is told. -/
theorem wpAnyH_got {i d : Nat} {oi : Oper} {v : Value} {fuel : Nat} {listed : Array Bool} {a : Act} {w : World} (hi : ops[i]? = some oi) (hd : oi.dst = some d)
    (hs : Region.noSelect ops = true) (hf : Region.free md ops listed i = true) (hr : (Region.ready md ops listed).contains i = true)
    (hQ : ∀ c a w, Q (.panic c) (a.put (some d) v) w → Q (.panic c) a w) (hy : YieldsIf P ops S oi v a) (hS : S w)
    (h : wpAnyH P md ops Q S fuel (listed.setIfInBounds i true) (a.put (some d) v) w) : wpAnyH P md ops Q S (fuel + 1) listed a w :=
  wpAnyH_take hi hs hf hr (by rw [hd]; exact hQ) hy hS (by rw [hd]; exact h)
/-- What a single operation's law gives in a region. -/
def KEnd (K : Act → World → Prop) : Exit → Act → World → Prop
  | .normal, a, w => K a w
  | _, _, _ => False
theorem wp_of_end {K K' : Act → World → Prop} {o : Oper} {a : Act} {w : World} (h : o.wp P a w K (KEnd K')) : o.wp P a w K Q := by
  unfold Oper.wp at *
  generalize (execOp a.eval o).run P w = r at *
  cases r with
  | ok n w' =>
    cases n <;> simp only [Oper.upon] at h ⊢ <;> first
      | exact h
      | exact Calls.mono h fun e w'' he => by cases e <;> first | exact he | exact he.elim | (obtain ⟨_, _, he⟩ := he; exact he.elim)
      | exact Rows.mono h fun u w'' he => he
  | halt x w' => cases x <;> simp only [Oper.upon] at h ⊢ <;> first | exact h | exact h.elim
theorem step_of_list {K : Act → World → Prop} {o : Oper} {a : Act} {w : World} (h : wpList P ops (KEnd K) [o] a w) :
    if Region.wanted o (yielded ops a.tmps) = true then Oper.wp P o a w K Q else K (a.put o.dst undef) w := by
  unfold wpList at h
  split at h
  · rename_i hw
    rw [if_pos hw]
    rcases h with h | ⟨_, _, _, h⟩
    · exact wp_of_end (Oper.wp_mono (fun a w h => h) h)
    · exact h.elim
  · rename_i hw
    rw [if_neg hw]
    exact h
/-- A piece of code that ends in one state, whatever the order. -/
def AtEnd (a' : Act) (w' : World) : Exit → Act → World → Prop
  | .normal, x, y => x = a' ∧ y = w'
  | _, _, _ => False
theorem wp_det {c : Code} {a a' : Act} {w w' : World} (h : c.wp P (AtEnd a' w') a w) (k : Q .normal a' w') : c.wp P Q a w :=
  Code.wp_mono (fun e x y h => by cases e <;> first | (obtain ⟨rfl, rfl⟩ := h; exact k) | exact h.elim) h
end
end Go.Proofs.Ytobnljndaabkaaa
