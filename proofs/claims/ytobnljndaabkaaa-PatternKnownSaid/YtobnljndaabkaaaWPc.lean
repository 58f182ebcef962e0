/- Pieces of a pattern: what they are in memory; the program's pieces. -/
import Derived.Test.YtobnljndaabkaaaWCl
import Derived.Test.YtobnljndaabkaaaRg
import Derived.Deep.RegionLaw
namespace Go.Proofs.Ytobnljndaabkaaa
open Go.RowKit Go.Proofs.YtobnljndaabkaaaW.PrintWords PatL

section
variable {P : Program} {ops : Array Oper} {o : Oper} {a : Act} {Q : Exit → Act → World → Prop} {K : Act → World → Prop}
/-- append(v, x), x of several cells, at a step of a region that draws its order. -/
theorem step_app_cells {w0 W : World} (base : Nat) (b : Nat) (hgd : o.guard = none) (s x : Operand) (t e : TypeId) (z : Value) (size bytes : Nat)
    (ho : o.op = .call { callee := .builtin .append, args := #[s, x], argTypes := #[t, t] })
    (ht : P.underlying t = some (.slice e)) (hinfo : (P.info? e).map (fun i => (i.zero, i.size, i.bytes)) = some (some z, size, bytes)) (hz : z.cells.size = size) (hs0 : 0 < size) (hb0 : 0 < bytes)
    (v : Value) (n : Nat) (xs ys : List Value) (hs : a.eval s = v) (hx : a.eval x = .slice (some ⟨b, 0, none⟩) 1 1) (hb : b = W.heap.size) (hys : ys.length = size) (h1 : ∀ u ∈ ys, u.oneCell' = true)
    (HO : W.ownsRow base e size v n xs) (HB : Below base w0 W) (hbase : base ≤ W.heap.size) (hl : (n + 1) * bytes ≤ 140737488355328)
    (h : ∀ v1 w1, w1.ownsRow base e size v1 (n + 1) (xs ++ ys) → Below base w0 w1 → W.grownBy w1 v.ownBlock → (v1.ownBlock = v.ownBlock ∨ ∃ b, v1.ownBlock = some b ∧ W.heap.size ≤ b) → K (a.put o.dst v1) w1) :
    if Region.wanted o (yielded ops a.tmps) = true then Oper.wp P o a (W.alloc (.cells ys.toArray e)) K Q else K (a.put o.dst undef) (W.alloc (.cells ys.toArray e)) :=
  step_of_list (app_cells base b hgd s x t e z size bytes ho ht hinfo hz hs0 hb0 v n xs ys hs hx hb hys h1 HO HB hbase hl fun v1 w1 h2 h3 h4 h5 => h v1 w1 h2 h3 h4 h5)
end
theorem put_some' (xs : List Value) (ds : List Deferred) (k : Nat) (v : Value) : (⟨xs.toArray, ds⟩ : Act).put (some k) v = ⟨(xs.set k v).toArray, ds⟩ := by simp [Act.put]
theorem info45 : (Try.prog.info? 45).map (fun i => (i.zero, i.size, i.bytes)) = some (some (.agg #[.bool false, .pointer none, .bool false]), 3, 24) := by kernel_rfl
/-- Pieces in memory: where each one's set lies. -/
def pcv (x : Pc × Nat) : List Value := [.bool x.1.any, .pointer (if x.1.any then none else some ⟨x.2, 0, none⟩), .bool x.1.own]
def pcells (L : List (Pc × Nat)) : List Value := L.flatMap pcv
theorem pcells_snoc (L : List (Pc × Nat)) (x : Pc × Nat) : pcells (L ++ [x]) = pcells L ++ pcv x := by simp [pcells]
theorem pcells_len (L : List (Pc × Nat)) : (pcells L).length = L.length * 3 := by
  induction L with
  | nil => rfl
  | cons x L ih => simp only [pcells, List.flatMap_cons, List.length_append, List.length_cons] at *; rw [ih]; simp [pcv]; omega
structure IsPcs (w : World) (base : Nat) (v : Value) (L : List (Pc × Nat)) : Prop where mk ::
  row : w.ownsRow base 45 3 v L.length (pcells L)
  sets : ∀ x ∈ L, x.1.any = false → w.heap[x.2]? = some (.cells (sc x.1.set) 66 (0, 0)) ∧ base ≤ x.2
theorem IsPcs.kept {w w1 : World} {base : Nat} {v : Value} {L : List (Pc × Nat)} (h : IsPcs w base v L) {S : Nat → Prop} (k : Keeps S w w1) (h1 : ∀ i, v.ownBlock = some i → ¬ S i) (h2 : ∀ x ∈ L, x.1.any = false → ¬ S x.2) : IsPcs w1 base v L :=
  ⟨k.own h.row h1, fun x hx ha => ⟨k.heap (h.sets x hx ha).1 (h2 x hx ha), (h.sets x hx ha).2⟩⟩
theorem IsPcs.keptNo {w w1 : World} {base : Nat} {v : Value} {L : List (Pc × Nat)} (h : IsPcs w base v L) (k : Keeps No w w1) : IsPcs w1 base v L :=
  h.kept k (fun _ _ h => h) (fun _ _ _ h => h)
theorem IsPcs.nil (w : World) (base : Nat) : IsPcs w base (.slice none 0 0) [] := ⟨World.ownsRow_nil _ _ _ _, fun x hx => by cases hx⟩
/-- One piece more. -/
theorem IsPcs.snoc {W w1 : World} {base : Nat} {v v1 : Value} {L : List (Pc × Nat)} (h : IsPcs W base v L) (x : Pc × Nat) (hx : x.1.any = false → W.heap[x.2]? = some (.cells (sc x.1.set) 66 (0, 0)) ∧ base ≤ x.2)
    (ho : w1.ownsRow base 45 3 v1 (L.length + 1) (pcells L ++ pcv x)) (hg : W.grownBy w1 v.ownBlock) : IsPcs w1 base v1 (L ++ [x]) := by
  refine ⟨by rw [pcells_snoc, List.length_append, List.length_singleton]; exact ho, fun y hy ha => ?_⟩
  have hk := Keeps.of_grown hg
  have hs : W.heap[y.2]? = some (.cells (sc y.1.set) 66 (0, 0)) ∧ base ≤ y.2 := by
    rcases List.mem_append.1 hy with hy | hy
    · exact h.sets y hy ha
    · obtain rfl := List.mem_singleton.1 hy
      exact hx ha
  refine ⟨hk.heap hs.1 (fun e => ?_), hs.2⟩
  exact own_ne h.row hs.1 (by decide) e.symm
/-- What pieces has come to. -/
structure PcsI (w wr : World) (s : ByteArray) (r f : Value) : Prop where mk ::
  out : ∃ (t : ByteArray) (L : List (Pc × Nat)), r = .string t ∧ t.size ≤ s.size ∧ L.length + t.size ≤ s.size ∧ L.map (·.1) ++ piecesF t.data.toList = piecesF s.data.toList ∧ IsPcs wr w.heap.size f L ∧ Keeps No w wr
theorem pcs_step {L : List (Pc × Nat)} {t t' : ByteArray} {P : List Pc} {x : Pc × Nat} {r : T} (hp : L.map (·.1) ++ piecesF t.data.toList = P) (hpc : piecesF t.data.toList = (piece t.data.toList).1 :: piecesF (piece t.data.toList).2)
    (hx : piece t.data.toList = (x.1, r)) (ht : t'.data.toList = r) : (L ++ [x]).map (·.1) ++ piecesF t'.data.toList = P := by
  rw [← hp, hpc, hx, ht]; simp
theorem ext_size (t : ByteArray) (h : 0 < t.size) : (t.extract 1 t.size).size < t.size := by
  have := data_length (t.extract 1 t.size)
  rw [extract_drop, List.length_drop, data_length] at this
  omega
theorem neq8 {c d : UInt8} (h : ¬ c = d) : ((c.toNat : Int) == d.toNat) = false := by
  have : ¬ (c.toNat : Int) = d.toNat := fun e => h (UInt8.toNat_inj.1 (by omega))
  simpa using this
theorem piece_plain {l r : T} {c : UInt8} (h : l = c :: r) (h1 : ¬ c = 42) (h2 : ¬ c = 63) (h3 : ¬ c = 91) : piece l = (one (taken l).1, (taken l).2) := by
  subst h
  unfold piece
  split
  · rename_i e; injection e with e _; exact absurd e h1
  · rename_i e; injection e with e _; exact absurd e h2
  · rename_i e; injection e with e _; exact absurd e h3
  · rfl
def PcsEnd (w : World) (l : T) (e : Ending) (w' : World) : Prop := ∃ (v : Value) (L : List (Pc × Nat)), e = .returned v ∧ L.map (·.1) = piecesF l ∧ IsPcs w' w.heap.size v L ∧ Keeps No w w'
set_option linter.unusedSimpArgs false in
set_option maxRecDepth 100000 in
set_option maxHeartbeats 6400000 in
theorem pieces_any (w : World) (s : ByteArray) (hs : s.size ≤ 4398046511104) : Calls Try.prog 25 #[.string s] w (PcsEnd w s.data.toList) := by
  have hz := fun W => sc_zero W
  go_enter Try.func25, Try.ntmps25
  go_wp2
  go_loopw [0, 3] (fun r f wr => PcsI w wr s r f) (fun r _ _ => strLen r)
  case atStart => exact ⟨⟨s, [], rfl, Nat.le_refl _, by simp, by simp, IsPcs.nil _ _, Keeps.refl _ _⟩⟩
  case round =>
    obtain ⟨t, L, rfl, hle, hln, hp, hI, hk⟩ := hrel.out
    have HP := Lib.hid hp
    have HI := Lib.hid hI
    have HK := Lib.hid hk
    clear hp hI hk hrel
    by_cases h0 : 0 < t.size
    · have he : t.toList.isEmpty = false := by
        rw [toList_data, List.isEmpty_eq_false_iff]
        intro e; have := data_length t; rw [e] at this; simp at this; omega
      have e1 := data_cons t h0
      have hne : t.data.toList ≠ [] := by rw [e1]; exact List.cons_ne_nil _ _
      have HPC := Lib.hid (piecesF_cons t.data.toList hne)
      have HE1 := Lib.hid e1
      have HNE := Lib.hid hne
      have hle1 : (1 : Int) ≤ (t.size : Int) := by omega
      have HD := Lib.hid (HI.out.keptNo (Keeps.refl No wr).drew)
      have HB := Lib.hid ((HK.out.drew).below')
      have hsz := HK.out.size
      clear e1 hne
      by_cases c42 : t[0] = 42
      · have hc : ((t[0].toNat : Int) == 42) = true := by rw [c42]; rfl
        have HX := Lib.hid (show piece t.data.toList = (star, t.data.toList.drop 1) from by
          rw [HE1.out, c42]; rfl)
        have HTL := Lib.hid (extract_drop t 1)
        have HSZ := Lib.hid (ext_size t h0)
        clear c42
        go_wp2
        go_region_law ((refine step_app_cells (w0 := w) (W := wr.drew) w.heap.size wr.heap.size rfl (.tmp 16) (.tmp 18) 41 45 (.agg #[.bool false, .pointer none, .bool false]) 3 24 rfl Try.underlying41 info45 rfl (by decide) (by decide) _ L.length (pcells L) (pcv (star, 0)) rfl rfl rfl rfl (by simp [pcv, Value.oneCell']) HD.out.row HB.out (by simpa using hsz) (by omega) ?_; intro v1 w1 hown hB hgr hat))
        have HI1 := Lib.hid (IsPcs.snoc HD.out (star, 0) (fun h => by cases h) hown hgr)
        have HK1 := Lib.hid (Keeps.of_below hB)
        clear hown hB hgr hat
        simp only [List.getElem_toArray, List.getElem_cons_succ, List.getElem_cons_zero, put_some', List.set_cons_zero, List.set_cons_succ]
        go_wp2
        go_roundw
        case rel =>
          refine ⟨⟨_, L ++ [(star, 0)], rfl, ?_, ?_, ?_, HI1.out, HK1.out⟩⟩
          · have := HSZ.out; omega
          · have := HSZ.out; simp; omega
          · exact pcs_step HP.out HPC.out HX.out HTL.out
        case measure => have := HSZ.out; simp [strLen]; omega
      · by_cases c63 : t[0] = 63
        · have hc1 : ((t[0].toNat : Int) == 42) = false := by rw [c63]; rfl
          have hc : ((t[0].toNat : Int) == 63) = true := by rw [c63]; rfl
          have HX := Lib.hid (show piece t.data.toList = (⟨false, false, fun _ => true⟩, t.data.toList.drop 1) from by
            rw [HE1.out, c63]; rfl)
          have HTL := Lib.hid (extract_drop t 1)
          have HSZ := Lib.hid (ext_size t h0)
          clear c63 c42
          have hb0 := heap_alloc_new wr (.cells (sc fun _ => false) 66)
          have hb1 := heap_alloc_new (wr.alloc (.cells (sc fun _ => false) 66)) (.cells #[.bool false, .pointer (some ⟨wr.heap.size, 0, none⟩), .bool false] 45)
          rw [World.size_alloc] at hb1
          have HB0 := Lib.hid (((Keeps.refl No _).alloc (.cells #[.bool false, .pointer (some ⟨wr.heap.size, 0, none⟩), .bool false] 45)).heap hb0 (fun h => h))
          have HB1 := Lib.hid hb1
          have HKA := Lib.hid ((HK.out.alloc (.cells (sc fun _ => false) 66)).alloc (.cells #[.bool false, .pointer (some ⟨wr.heap.size, 0, none⟩), .bool false] 45))
          have HIA := Lib.hid (HI.out.keptNo (((Keeps.refl No wr).alloc (.cells (sc fun _ => false) 66)).alloc (.cells #[.bool false, .pointer (some ⟨wr.heap.size, 0, none⟩), .bool false] 45)))
          clear hb0 hb1
          go_wp2
          obtain ⟨wo, rfl⟩ : ∃ wo : World, wo = wr := ⟨_, rfl⟩
          go_loopw [27, 5] (fun iv _ wq => ∃ k : Nat, iv = .int .i64 k ∧ k ≤ 256 ∧ wq.heap[wo.heap.size]? = some (.cells (sc fun x => decide (x < k)) 66 (0, 0)) ∧ wq.heap[wo.heap.size + 1]? = some (.cells #[.bool false, .pointer (some ⟨wo.heap.size, 0, none⟩), .bool false] 45 (0, 0)) ∧ IsPcs wq w.heap.size u3 L ∧ Keeps No w wq) (fun iv _ _ => 256 - (intOf iv).toNat)
          case atStart => exact ⟨0, rfl, by omega, by rw [sc_ext (T := fun _ => false) fun x _ => by simp]; exact HB0.out, HB1.out, HIA.out, HKA.out⟩
          case round =>
            obtain ⟨k, rfl, hkb, hset, hcell, hi, hk⟩ := hrel
            have HSS := Lib.hid hset
            have HC := Lib.hid hcell
            have HII := Lib.hid hi
            have HKK := Lib.hid hk
            have hszq := blk_lt hcell
            clear hset hcell hi hk
            by_cases hlt : k < 256
            · have hg : wr.cell? ⟨wo.heap.size, k, none⟩ = some (.bool false) := by rw [blk_cell HSS.out, sc_get _ k hlt]; simp
              have hf : wr.frozen? ⟨wo.heap.size, k, none⟩ = false := blk_frozen HSS.out k
              have hg1 : wr.cell? ⟨wo.heap.size + 1, 1, none⟩ = some (.pointer (some ⟨wo.heap.size, 0, none⟩)) := by rw [blk_cell HC.out]; rfl
              go_wp2
              go_roundw
              case rel =>
                have hst := (Keeps.refl (fun q => q = wo.heap.size) wr).setCell (p := ⟨wo.heap.size, k, none⟩) (.inl rfl) (.bool true)
                refine ⟨k + 1, by go_num, by omega, ?_, ?_, ?_, HKK.out.trans hst (fun i hi => .inr (by have hi : i = wo.heap.size := hi; omega))⟩
                · rw [blk_set HSS.out, sc_set]
                  rw [sc_ext (T := fun x => decide (x < k + 1)) fun x _ => by unfold putS; by_cases e : x = k <;> simp [e] <;> omega]
                · exact hst.heap HC.out (fun h => by have h : wo.heap.size + 1 = wo.heap.size := h; omega)
                · exact HII.out.kept hst (fun i hi h => by subst h; exact own_ne HII.out.row HSS.out (by decide) hi.symm) (fun x hx ha h => by have h : x.2 = wo.heap.size := h; have := blk_lt (HI.out.sets x hx ha).1; omega)
              case measure => simp [intOf]; omega
            · obtain rfl : k = 256 := by omega
              have g0 : wr.cell? ⟨wo.heap.size + 1, 0, none⟩ = some (.bool false) := by rw [blk_cell HC.out]; rfl
              have g1 : wr.cell? ⟨wo.heap.size + 1, 1, none⟩ = some (.pointer (some ⟨wo.heap.size, 0, none⟩)) := by rw [blk_cell HC.out]; rfl
              have g2 : wr.cell? ⟨wo.heap.size + 1, 2, none⟩ = some (.bool false) := by rw [blk_cell HC.out]; rfl
              have HSS' := Lib.hid (show wr.drew.heap[wo.heap.size]? = some (.cells (sc fun _ => true) 66 (0, 0)) from by
                show wr.heap[wo.heap.size]? = _
                rw [HSS.out, sc_ext (T := fun _ => true) fun x hx => by simp [hx]])
              have HD2 := Lib.hid (HII.out.keptNo (Keeps.refl No wr).drew)
              have HB2 := Lib.hid ((HKK.out.drew).below')
              have hsz2 := HKK.out.size
              clear hlt hkb
              go_wp2
              go_region_law ((refine step_app_cells (w0 := w) (W := wr.drew) w.heap.size wr.heap.size rfl (.tmp 36) (.tmp 38) 41 45 (.agg #[.bool false, .pointer none, .bool false]) 3 24 rfl Try.underlying41 info45 rfl (by decide) (by decide) _ L.length (pcells L) (pcv (⟨false, false, fun _ => true⟩, wo.heap.size)) rfl rfl rfl rfl (by simp [pcv, Value.oneCell']) HD2.out.row HB2.out (by simpa using hsz2) (by omega) ?_; intro v1 w1 hown hB hgr hat))
              have HI1 := Lib.hid (IsPcs.snoc HD2.out (⟨false, false, fun _ => true⟩, wo.heap.size) (fun _ => ⟨HSS'.out, hsz⟩) hown hgr)
              have HK1 := Lib.hid (Keeps.of_below hB)
              clear hown hB hgr hat
              simp only [List.getElem_toArray, List.getElem_cons_succ, List.getElem_cons_zero, put_some', List.set_cons_zero, List.set_cons_succ]
              go_wp2
              go_roundw
              case rel =>
                refine ⟨⟨_, L ++ [(⟨false, false, fun _ => true⟩, wo.heap.size)], rfl, ?_, ?_, ?_, HI1.out, HK1.out⟩⟩
                · have := HSZ.out; omega
                · have := HSZ.out; simp; omega
                · exact pcs_step HP.out HPC.out HX.out HTL.out
              case measure => have := HSZ.out; simp [strLen]; omega
        · by_cases c91 : t[0] = 91
          · have hc1 : ((t[0].toNat : Int) == 42) = false := by rw [c91]; rfl
            have hc2 : ((t[0].toNat : Int) == 63) = false := by rw [c91]; rfl
            have hc : ((t[0].toNat : Int) == 91) = true := by rw [c91]; rfl
            have HX0 := Lib.hid (show piece t.data.toList = (match closed (t.data.toList.drop 1) with | some (S, q) => (⟨false, false, S⟩, q) | none => plain t.data.toList) from by
              have e := HE1.out
              rw [c91] at e
              rw [e]; rfl)
            have hszx : (t.extract 1 t.size).size = t.size - 1 := by have := data_length (t.extract 1 t.size); rw [extract_drop, List.length_drop, data_length] at this; omega
            have HCA := Lib.hid (fun W => closed_any W (t.extract 1 t.size) (by omega))
            rw [extract_drop] at HCA
            clear c91 c63 c42 hszx
            go_wp2_with fail
            refine (HCA.out _).mono ?_
            rintro e w5 ⟨hk5, hm⟩
            have HK5 := Lib.hid (HK.out.then hk5)
            have HI5 := Lib.hid (HI.out.keptNo hk5)
            have hsz5 := hk5.size
            have HLEN := Lib.hid (fun S r => closed_len (t.data.toList.drop 1) S r)
            clear hk5 HCA
            cases hcl : closed (t.data.toList.drop 1) with
            | none =>
              rw [hcl] at hm HX0
              obtain ⟨tz, rfl⟩ := hm
              have KP := Lib.hid (HK5.out.alloc (.cells #[.bool false, .pointer none, .bool false] 45))
              have IP := Lib.hid (HI5.out.keptNo ((Keeps.refl No w5).alloc (.cells #[.bool false, .pointer none, .bool false] 45)))
              have HX := Lib.hid (show piece t.data.toList = (one (taken t.data.toList).1, (taken t.data.toList).2) from HX0.out)
              clear hcl
              have hp1 : taken t.data.toList = taken t.data.toList := rfl
              have HTK := Lib.hid (fun W => taken_any W t h0 (by omega))
              have HTKL := Lib.hid (taken_len t.data.toList HNE.out)
              go_wp2_with fail
              refine (HTK.out _).mono ?_
              rintro e w2 ⟨⟨t2, rfl, ht2⟩, hk2⟩
              have HK2 := Lib.hid (KP.out.then hk2)
              have HI2 := Lib.hid (IP.out.keptNo hk2)
              have HTL := Lib.hid ht2
              have HSZ := Lib.hid (show t2.size < t.size from taken_lt t t2 ht2 h0)
              clear hk2 ht2 HTK hp1
              generalize (taken t.data.toList).1 = x at *
              go_wp2_with fail
              refine (one_any _ x).mono ?_
              rintro e w3 ⟨rfl, hset, hk3⟩
              have HS3 := Lib.hid (show w3.heap[w2.heap.size + 1]? = some (.cells (sc (one x).set) 66 (0, 0)) from hset)
              have HK3 := Lib.hid (HK2.out.then hk3)
              have HI3 := Lib.hid (HI2.out.keptNo hk3)
              have HB3 := Lib.hid HK3.out.below'
              have hsz3 := HK3.out.size
              have hsz2 := HK2.out.size
              clear hset hk3
              go_wp2_with (at_builtin; go_loud (refine app_cells (w0 := w) (W := w3) w.heap.size w3.heap.size rfl (.tmp 62) (.tmp 65) 41 45 (.agg #[.bool false, .pointer none, .bool false]) 3 24 rfl Try.underlying41 info45 rfl (by decide) (by decide) _ L.length (pcells L) (pcv (one x, w2.heap.size + 1)) rfl rfl rfl rfl (by simp [pcv, Value.oneCell']) HI3.out.row HB3.out hsz3 (by omega) ?_; intro v1 w1 hown hB hgr hat; have HI1 := Lib.hid (IsPcs.snoc HI3.out (one x, w2.heap.size + 1) (fun _ => ⟨HS3.out, by omega⟩) hown hgr); have HK1 := Lib.hid (Keeps.of_below hB); clear hown hB hgr hat))
              go_roundw
              case rel =>
                refine ⟨⟨_, L ++ [(one x, w2.heap.size + 1)], rfl, ?_, ?_, ?_, HI1.out, HK1.out⟩⟩
                · have := HSZ.out; omega
                · have := HSZ.out; simp; omega
                · exact pcs_step HP.out HPC.out HX.out HTL.out
              case measure => have := HSZ.out; simp [strLen]; omega
            | some sr =>
              obtain ⟨S, r⟩ := sr
              rw [hcl] at hm HX0
              obtain ⟨t2, b, rfl, ht2, hset, hlb⟩ := hm
              have HTL := Lib.hid ht2
              have HX := Lib.hid (show piece t.data.toList = (⟨false, false, S⟩, r) from HX0.out)
              have HSZ := Lib.hid (show t2.size < t.size from by
                have := HLEN.out S r hcl
                rw [← ht2, data_length, List.length_drop, data_length] at this
                omega)
              have hnew := heap_alloc_new w5 (.cells #[.bool false, .pointer (some ⟨b, 0, none⟩), .bool false] 45)
              have ha := (Keeps.refl No w5).alloc (.cells #[.bool false, .pointer (some ⟨b, 0, none⟩), .bool false] 45)
              have HS5 := Lib.hid (ha.heap hset (fun h => h))
              have HK6 := Lib.hid (HK5.out.then ha)
              have HI6 := Lib.hid (HI5.out.keptNo ha)
              have HB6 := Lib.hid HK6.out.below'
              have hsz6 := HK6.out.size
              clear hnew ha ht2 hset hcl
              go_wp2_with (at_builtin; go_loud (refine app_cells (w0 := w) (W := w5.alloc (.cells #[.bool false, .pointer (some ⟨b, 0, none⟩), .bool false] 45)) w.heap.size (w5.heap.size + 1) rfl (.tmp 52) (.tmp 54) 41 45 (.agg #[.bool false, .pointer none, .bool false]) 3 24 rfl Try.underlying41 info45 rfl (by decide) (by decide) _ L.length (pcells L) (pcv (⟨false, false, S⟩, b)) rfl rfl (by simp) rfl (by simp [pcv, Value.oneCell']) HI6.out.row HB6.out hsz6 (by omega) ?_; intro v1 w1 hown hB hgr hat; have HI1 := Lib.hid (IsPcs.snoc HI6.out (⟨false, false, S⟩, b) (fun _ => ⟨HS5.out, by omega⟩) hown hgr); have HK1 := Lib.hid (Keeps.of_below hB); clear hown hB hgr hat))
              go_roundw
              case rel =>
                refine ⟨⟨_, L ++ [(⟨false, false, S⟩, b)], rfl, ?_, ?_, ?_, HI1.out, HK1.out⟩⟩
                · have := HSZ.out; omega
                · have := HSZ.out; simp; omega
                · exact pcs_step HP.out HPC.out HX.out HTL.out
              case measure => have := HSZ.out; simp [strLen]; omega
          · have hc1 : ((t[0].toNat : Int) == 42) = false := neq8 c42
            have hc2 : ((t[0].toNat : Int) == 63) = false := neq8 c63
            have hc : ((t[0].toNat : Int) == 91) = false := neq8 c91
            have HX := Lib.hid (show piece t.data.toList = (one (taken t.data.toList).1, (taken t.data.toList).2) from piece_plain HE1.out c42 c63 c91)
            have KP := HK
            have IP := HI
            clear c42 c63 c91
            have hp1 : taken t.data.toList = taken t.data.toList := rfl
            have HTK := Lib.hid (fun W => taken_any W t h0 (by omega))
            have HTKL := Lib.hid (taken_len t.data.toList HNE.out)
            go_wp2_with fail
            refine (HTK.out _).mono ?_
            rintro e w2 ⟨⟨t2, rfl, ht2⟩, hk2⟩
            have HK2 := Lib.hid (KP.out.then hk2)
            have HI2 := Lib.hid (IP.out.keptNo hk2)
            have HTL := Lib.hid ht2
            have HSZ := Lib.hid (show t2.size < t.size from taken_lt t t2 ht2 h0)
            clear hk2 ht2 HTK hp1
            generalize (taken t.data.toList).1 = x at *
            go_wp2_with fail
            refine (one_any _ x).mono ?_
            rintro e w3 ⟨rfl, hset, hk3⟩
            have HS3 := Lib.hid (show w3.heap[w2.heap.size + 1]? = some (.cells (sc (one x).set) 66 (0, 0)) from hset)
            have HK3 := Lib.hid (HK2.out.then hk3)
            have HI3 := Lib.hid (HI2.out.keptNo hk3)
            have HB3 := Lib.hid HK3.out.below'
            have hsz3 := HK3.out.size
            have hsz2 := HK2.out.size
            clear hset hk3
            go_wp2_with (at_builtin; go_loud (refine app_cells (w0 := w) (W := w3) w.heap.size w3.heap.size rfl (.tmp 62) (.tmp 65) 41 45 (.agg #[.bool false, .pointer none, .bool false]) 3 24 rfl Try.underlying41 info45 rfl (by decide) (by decide) _ L.length (pcells L) (pcv (one x, w2.heap.size + 1)) rfl rfl rfl rfl (by simp [pcv, Value.oneCell']) HI3.out.row HB3.out hsz3 (by omega) ?_; intro v1 w1 hown hB hgr hat; have HI1 := Lib.hid (IsPcs.snoc HI3.out (one x, w2.heap.size + 1) (fun _ => ⟨HS3.out, by omega⟩) hown hgr); have HK1 := Lib.hid (Keeps.of_below hB); clear hown hB hgr hat))
            go_roundw
            case rel =>
              refine ⟨⟨_, L ++ [(one x, w2.heap.size + 1)], rfl, ?_, ?_, ?_, HI1.out, HK1.out⟩⟩
              · have := HSZ.out; omega
              · have := HSZ.out; simp; omega
              · exact pcs_step HP.out HPC.out HX.out HTL.out
            case measure => have := HSZ.out; simp [strLen]; omega
    · obtain rfl : t = ⟨#[]⟩ := by
        obtain ⟨d⟩ := t
        have hd : d.size = 0 := by have h0 : ¬ 0 < d.size := h0; omega
        rw [Array.eq_empty_of_size_eq_zero hd]
      go_wp2
      go_ret
      refine ⟨_, L, ret_eq rfl, ?_, HI.out, HK.out⟩
      have := HP.out
      simpa [piecesF_nil] using this
end Go.Proofs.Ytobnljndaabkaaa
