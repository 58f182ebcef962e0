/- Match of the program's pattern: greedy, with one star kept. -/
import Derived.Test.YtobnljndaabkaaaWPc
import Derived.Test.YtobnljndaabkaaaWGr
import Derived.WalkMore
namespace Go.Proofs.Ytobnljndaabkaaa
open Go.RowKit Go.Proofs.YtobnljndaabkaaaW.PrintWords PatL

theorem pcells_get (L : List (Pc × Nat)) (i : Nat) (h : i < L.length) : (pcells L)[i * 3]? = some (.bool L[i].1.any) ∧ (pcells L)[i * 3 + 1]? = some (.pointer (if L[i].1.any then none else some ⟨L[i].2, 0, none⟩)) ∧ (pcells L)[i * 3 + 2]? = some (.bool L[i].1.own) := by
  induction L generalizing i with
  | nil => simp at h
  | cons x L ih =>
    have e : pcells (x :: L) = pcv x ++ pcells L := by simp [pcells]
    cases i with
    | zero => rw [e]; refine ⟨rfl, rfl, rfl⟩
    | succ i =>
      have h3 : (pcv x).length = 3 := rfl
      have := ih i (by simpa using h)
      rw [e]
      simp only [show (i + 1) * 3 = 3 + i * 3 by omega, List.getElem_cons_succ]
      rw [Nat.add_assoc, Nat.add_assoc]
      rw [List.getElem?_append_right (by omega), List.getElem?_append_right (by omega), List.getElem?_append_right (by omega), h3]
      simp only [Nat.add_sub_cancel_left]
      exact this
/-- What is read of pieces in memory. -/
theorem IsPcs.form {w : World} {base : Nat} {v : Value} {L : List (Pc × Nat)} (h : IsPcs w base v L) : ∃ (A : Option Addr) (c : Nat), v = .slice A L.length c ∧ L.length ≤ c ∧
    (0 < L.length → ∃ g, A = some ⟨g, 0, none⟩ ∧ ∀ W, Keeps No w W → ∀ i (hi : i < L.length), W.cell? ⟨g, i * 3, none⟩ = some (.bool L[i].1.any) ∧ W.cell? ⟨g, i * 3 + 1, none⟩ = some (.pointer (if L[i].1.any then none else some ⟨L[i].2, 0, none⟩)) ∧ W.cell? ⟨g, i * 3 + 2, none⟩ = some (.bool L[i].1.own)) := by
  rcases h.row.2 with ⟨e, hn⟩ | ⟨g, cap, cur, e, hg, hh, hle, r⟩
  · subst e
    have : L.length = 0 := by have := h.row.1; first | exact hn | (simp at hn; omega) | skip
    exact ⟨none, 0, by rw [this], by omega, fun h0 => by omega⟩
  · refine ⟨some ⟨g, 0, none⟩, cap, e, hle, fun _ => ⟨g, rfl, fun W k i hi => ?_⟩⟩
    have hc := fun j v hv => k.cell ((h.row.cells (g := g) (by rw [e]; rfl) j v hv)) (fun h => h)
    have hp := pcells_get L i hi
    have h0 := hc _ _ hp.1
    have h1 := hc _ _ hp.2.1
    have h2 := hc _ _ hp.2.2
    rw [add_plain] at h0 h1 h2
    exact ⟨h0, h1, h2⟩
theorem own_any (n : Nat) : ∀ l : T, l.length ≤ n → ∀ p ∈ piecesF l, p.own = true → p.any = false := by
  induction n with
  | zero => intro l h p hp; have : l = [] := List.length_eq_zero_iff.1 (by omega); subst this; cases hp
  | succ n ih =>
    intro l h p hp ho
    by_cases hl : l = []
    · subst hl; cases hp
    · rw [piecesF_cons l hl] at hp
      have hlt := piece_len l hl
      rcases List.mem_cons.1 hp with e | hp
      · subst e
        unfold piece at ho ⊢
        split <;> simp_all [star, plain, one]
        split <;> simp_all
      · exact ih _ (by omega) p hp ho
theorem dot_eq (l : T) : Lib.hasPrefix l [46] = (match l with | [] => false | c :: _ => decide (c = 46)) := by
  cases l with
  | nil => rfl
  | cons c l =>
    by_cases h : c = 46
    · subst h; rfl
    · simp [Lib.hasPrefix, List.isPrefixOf, h]; exact fun e => h e.symm
theorem point_eq (l : List Pc) (s : T) : point l s = (Lib.hasPrefix s [46] && (match l with | [] => true | p :: _ => !p.own || !p.set 46)) := by
  rw [dot_eq]
  cases s <;> rfl
abbrev dfl : Pc := ⟨false, false, fun _ => false⟩
section
variable {l : List Pc} {s : T} {n k a st f : Nat}
theorem g_any (h1 : a < s.length) (h2 : k < l.length) (h3 : (l.getD k dfl).any = true) : greedy l s (n + 1) k a st f = greedy l s n (k + 1) a (k + 1) a := by
  rw [greedy, if_pos h1, if_pos ⟨h2, h3⟩]
theorem g_set (h1 : a < s.length) (h2 : k < l.length) (h3 : (l.getD k dfl).any = false) (h4 : (l.getD k dfl).set (s.getD a 0).toNat = true) : greedy l s (n + 1) k a st f = greedy l s n (k + 1) (a + 1) st f := by
  rw [greedy, if_pos h1, if_neg (fun h => by have h := h.2; rw [h3] at h; cases h), if_pos ⟨h2, h4⟩]
theorem g_star (h1 : a < s.length) (h2 : k < l.length → (l.getD k dfl).any = false ∧ (l.getD k dfl).set (s.getD a 0).toNat = false) (h3 : 0 < st) : greedy l s (n + 1) k a st f = greedy l s n st (f + 1) st (f + 1) := by
  rw [greedy, if_pos h1, if_neg (fun h => by have := (h2 h.1).1; have h := h.2; rw [this] at h; cases h), if_neg (fun h => by have := (h2 h.1).2; have h := h.2; rw [this] at h; cases h), if_pos h3]
theorem g_no (h1 : a < s.length) (h2 : k < l.length → (l.getD k dfl).any = false ∧ (l.getD k dfl).set (s.getD a 0).toNat = false) (h3 : ¬ 0 < st) : greedy l s (n + 1) k a st f = some false := by
  rw [greedy, if_pos h1, if_neg (fun h => by have := (h2 h.1).1; have h := h.2; rw [this] at h; cases h), if_neg (fun h => by have := (h2 h.1).2; have h := h.2; rw [this] at h; cases h), if_neg h3]
theorem g_end (h1 : ¬ a < s.length) : greedy l s (n + 1) k a st f = some (allAny (l.drop k)) := by rw [greedy, if_neg h1]
theorem m_any (hk : k < l.length) (hst : st ≤ k) (hf : f ≤ a) (ha : a < s.length) : meas l s (k + 1) (k + 1) a < meas l s k st f := by
  have hx : (l.length + 1 - (k + 1)) + (s.length + 1 - a) + 1 ≤ (l.length + 1 - st) + (s.length + 1 - f) := by omega
  have hy := Nat.mul_le_mul_right (l.length + 2) hx
  rw [Nat.succ_mul] at hy
  unfold meas at *
  omega
theorem m_set (hk : k < l.length) : meas l s (k + 1) st f < meas l s k st f := by unfold meas; omega
theorem m_star (hk : k ≤ l.length) (hf : f ≤ a) (ha : a < s.length) : meas l s st st (f + 1) < meas l s k st f := by
  have hx : (l.length + 1 - st) + (s.length + 1 - (f + 1)) + 1 ≤ (l.length + 1 - st) + (s.length + 1 - f) := by omega
  have hy := Nat.mul_le_mul_right (l.length + 2) hx
  rw [Nat.succ_mul] at hy
  unfold meas at *
  omega
end
theorem map_getD (L : List (Pc × Nat)) (k : Nat) (h : k < L.length) : (L.map (·.1)).getD k dfl = L[k].1 := by simp [List.getD_eq_getElem?_getD, h]
theorem data_at (s : ByteArray) (a : Nat) (h : a < s.size) : s.data.toList.getD a 0 = s[a] := by
  have h' : a < s.data.toList.length := by rw [data_length]; exact h
  rw [List.getD_eq_getElem?_getD, List.getElem?_eq_getElem h']; rfl
theorem allAny_drop (L : List (Pc × Nat)) (k : Nat) (h : k < L.length) : allAny ((L.map (·.1)).drop k) = (L[k].1.any && allAny ((L.map (·.1)).drop (k + 1))) := by
  have h' : k < (L.map (·.1)).length := by simpa using h
  rw [List.drop_eq_getElem_cons h']
  simp [allAny]
/-- What Match has come to. -/
structure MtI (PL : List Pc) (s : T) (k a st f : Value) : Prop where mk ::
  out : ∃ (n k' a' st' f' : Nat), k = .int .i64 k' ∧ a = .int .i64 a' ∧ st = .int .i64 ((st' : Int) - 1) ∧ f = .int .i64 f' ∧ greedy PL s n k' a' st' f' = some (mt PL s) ∧ k' ≤ PL.length ∧ a' ≤ s.length ∧ st' ≤ k' ∧ f' ≤ a'
def meas' (PL : List Pc) (s : T) (k st f : Value) : Nat := meas PL s (intOf k).toNat ((intOf st) + 1).toNat (intOf f).toNat
set_option linter.unusedSimpArgs false in
set_option maxRecDepth 100000 in
set_option maxHeartbeats 6400000 in
theorem match_any (w : World) (p s : ByteArray) (hp : p.size ≤ 4398046511104) (hs : s.size ≤ 9223372036854775806) : Calls Try.prog 10 #[.string p, .string s] w fun e w' =>
    e = .returned (.bool (mtch p.data.toList s.data.toList)) ∧ Keeps No w w' := by
  have HOWN := Lib.hid (own_any _ p.data.toList (Nat.le_refl _))
  have HML := Lib.hid (show mtch p.data.toList s.data.toList = (!point (piecesF p.data.toList) s.data.toList && mt (piecesF p.data.toList) s.data.toList) from rfl)
  have HPT := Lib.hid (point_eq (piecesF p.data.toList) s.data.toList)
  have hpl := piecesF_len _ p.data.toList (Nat.le_refl _)
  rw [data_length] at hpl
  generalize mtch p.data.toList s.data.toList = M at *
  go_enter Try.func10, Try.ntmps10
  go_wp2
  go_step3
  go_wp2_with fail
  refine (pieces_any w p hp).mono ?_
  rintro e w1 ⟨v, L, rfl, hL, hI, hk1⟩
  have HL := Lib.hid hL
  have HI := Lib.hid hI
  have HK1 := Lib.hid hk1
  obtain ⟨A, c, rfl, hlc, hcl⟩ := hI.form
  have HCL := Lib.hid hcl
  have hLl : L.length ≤ 4398046511104 := by have := congrArg List.length hL; rw [List.length_map] at this; omega
  rw [← hL] at HML HPT HOWN
  clear hL hI hk1 hcl hpl
  go_wp2_with fail
  refine (Try.strings_HasPrefix s ⟨#[46]⟩ w1).mono ?_
  rintro e w2 ⟨rfl, rfl⟩
  have HDOT := Lib.hid (show Lib.hasPrefix s.data.toList ({ data := #[46] } : ByteArray).data.toList = Lib.hasPrefix s.data.toList [46] from rfl)
  rw [HDOT.out]
  clear HDOT
  generalize Lib.hasPrefix s.data.toList [46] = dot at *
  have HGO := Lib.hid (greedy_ok (L.map (·.1)) s.data.toList)
  by_cases hpt : point (L.map (·.1)) s.data.toList = true
  · have HM := Lib.hid (show M = false from by rw [HML.out, hpt]; rfl)
    rw [HPT.out] at hpt
    clear HGO HML HPT
    cases dot
    · cases hpt
    · by_cases h0 : L.length = 0
      · rw [h0]
        clear h0 HCL HOWN HL HI hpt
        go_wp2
        try rw [Exit.noGoto_ret]
        go_ret
        exact ⟨ret_eq (by rw [HM.out]; rfl), HK1.out⟩
      · obtain ⟨x, L', hL⟩ : ∃ x L', L = x :: L' := by
          cases L with
          | nil => exact absurd rfl h0
          | cons x L' => exact ⟨x, L', rfl⟩
        have h0 : 0 < L.length := by omega
        obtain ⟨g, rfl, hc⟩ := HCL.out h0
        have h3 := hc w2 (Keeps.refl _ _) 0 h0
        have hx : L[0] = x := by simp [hL]
        rw [hx] at h3
        simp only [Nat.zero_mul, Nat.zero_add] at h3
        have h3b := h3.2.1
        have h3c := h3.2.2
        have hso := HI.out.sets x (by rw [hL]; simp)
        have hxo := HOWN.out x.1 (by rw [hL]; simp)
        have hpt' : (!x.1.own || !x.1.set 46) = true := by rw [hL] at hpt; simpa using hpt
        have hlen : (L.length : Int) ≠ 0 := by omega
        have hlz : ((L.length : Int) == 0) = false := by simpa using hlen
        have hl0 : (0 : Int) < (L.length : Int) := by omega
        clear hx hc h3 hpt hL HCL hlen
        cases hown : x.1.own with
        | false =>
          rw [hown] at h3c
          clear hso hxo hpt'
          go_wp2
          try rw [Exit.noGoto_ret]
          go_ret
          exact ⟨ret_eq (by rw [HM.out]; rfl), HK1.out⟩
        | true =>
          rw [hown] at hpt' h3c
          have ha := hxo hown
          rw [ha] at h3b
          have h46 : x.1.set 46 = false := by simpa using hpt'
          have h3d : w2.cell? ⟨x.2, 46, none⟩ = some (.bool false) := by rw [blk_cell (hso ha).1, sc_get _ _ (by decide), h46]
          simp only [Bool.false_eq_true, if_false] at h3b
          clear hso hxo hpt' hown ha h46
          go_wp2
          try rw [Exit.noGoto_ret]
          go_ret
          exact ⟨ret_eq (by rw [HM.out]; rfl), HK1.out⟩
  · have hpf : point (L.map (·.1)) s.data.toList = false := by simpa using hpt
    have HM := Lib.hid (show M = mt (L.map (·.1)) s.data.toList from by rw [HML.out, hpf]; rfl)
    rw [HPT.out] at hpf
    clear HML HPT hpt
    have hcase : dot = false ∨ dot = true ∧ ∃ x L', L = x :: L' ∧ x.1.own = true ∧ x.1.set 46 = true := by
      cases dot
      · exact .inl rfl
      · refine .inr ⟨rfl, ?_⟩
        cases hL : L with
        | nil => rw [hL] at hpf; simp at hpf
        | cons x L' =>
          rw [hL] at hpf
          simp at hpf
          exact ⟨x, L', rfl, hpf.1, hpf.2⟩
    clear hpf
    rcases hcase with rfl | ⟨rfl, x, L', hL, hown, h46⟩
    · go_wp2
      go_step3
      go_wp2
      go_loopw [6, 7, 8, 9] (fun k a st f wr => MtI (L.map (·.1)) s.data.toList k a st f ∧ Keeps No w2 wr) (fun k a st f _ => meas' (L.map (·.1)) s.data.toList k st f)
      case atStart =>
        obtain ⟨n, hn⟩ := HGO.out
        exact ⟨⟨n, 0, 0, 0, 0, rfl, rfl, rfl, rfl, hn, by omega, by omega, by omega, by omega⟩, Keeps.refl _ _⟩
      case round =>
        obtain ⟨hM, hkr⟩ := hrel
        obtain ⟨n, k, a, st, f, rfl, rfl, rfl, rfl, hg, hkl, hal, hsk, hfa⟩ := hM.out
        have HKR := Lib.hid hkr
        have hml : (L.map (·.1)).length = L.length := List.length_map ..
        have hsl := data_length s
        have HG := Lib.hid hg
        rw [hml] at hkl
        rw [hsl] at hal
        have HML := Lib.hid hml
        have HSL := Lib.hid hsl
        clear hM hkr hg hml hsl
        cases n with
        | zero => have h := HG.out; simp [greedy] at h
        | succ n =>
          by_cases hlt : a < s.size
          · have hla : a < s.data.toList.length := by rw [HSL.out]; exact hlt
            have HLA := Lib.hid hla
            clear hla
            by_cases hk : k < L.length
            · have h0 : 0 < L.length := by omega
              obtain ⟨g', hA, hc⟩ := HCL.out h0
              cases hA
              have h3 := hc wr HKR.out k hk
              have hso := HI.out.sets L[k] (List.getElem_mem hk)
              have HGD := Lib.hid (map_getD L k hk)
              have HAT := Lib.hid (data_at s a hlt)
              have hb := (s[a]'hlt).toNat_lt
              have hbi : (((s[a]'hlt).toNat : Nat) : Int) < 256 := by omega
              have hbi0 : (0 : Int) ≤ (((s[a]'hlt).toNat : Nat) : Int) := by omega
              have c0 := h3.1
              have c1 := h3.2.1
              clear hc h3 h0
              have hkd : decide (k < L.length) = true := by simpa using hk
              have hki : (k : Int) < (L.length : Int) := by omega
              have hki0 : (0 : Int) ≤ (k : Int) := by omega
              have hai : (a : Int) < (s.size : Int) := by omega
              have hai0 : (0 : Int) ≤ (a : Int) := by omega
              cases hany : L[k].1.any with
              | true =>
                rw [hany] at c0 c1
                have HR := Lib.hid (HG.out ▸ (g_any (n := n) (st := st) (f := f) HLA.out (by rw [HML.out]; exact hk) (by rw [HGD.out]; exact hany)).symm)
                clear hso c1 hany hb hbi hbi0
                go_wp2
                go_roundw
                case rel => exact ⟨⟨n, k + 1, a, k + 1, a, by go_num, rfl, by simp, rfl, HR.out, by rw [HML.out]; omega, by rw [HSL.out]; omega, by omega, by omega⟩, HKR.out⟩
                case measure =>
                  have := m_any (l := L.map (·.1)) (s := s.data.toList) (k := k) (st := st) (f := f) (a := a) (by rw [HML.out]; exact hk) hsk hfa HLA.out
                  simp [meas', intOf]
                  first | exact this | (have e : ((k : Int) + 1).toNat = k + 1 := by omega); (rw [e]; exact this)
              | false =>
                rw [hany] at c0 c1
                simp only [Bool.false_eq_true, if_false] at c1
                have HS := Lib.hid (hso hany).1
                have HKS := Lib.hid (HKR.out.heap HS.out (fun h => h))
                cases hset : L[k].1.set (s[a]'hlt).toNat with
                | true =>
                  have c2 : wr.cell? ⟨L[k].2, (s[a]'hlt).toNat, none⟩ = some (.bool true) := by rw [blk_cell HKS.out, sc_get _ _ hb, hset]
                  have HR := Lib.hid (HG.out ▸ (g_set (n := n) (st := st) (f := f) HLA.out (by rw [HML.out]; exact hk) (by rw [HGD.out]; exact hany) (by rw [HGD.out, HAT.out]; exact hset)).symm)
                  clear hso hany hset
                  generalize L[k].2 = bk at *
                  go_wp2
                  go_quiet (fail)
                  go_wp2
                  go_roundw
                  case rel => exact ⟨⟨n, k + 1, a + 1, st, f, by go_num, by go_num, rfl, rfl, HR.out, by rw [HML.out]; omega, by rw [HSL.out]; omega, by omega, by omega⟩, HKR.out.drewN _⟩
                  case measure =>
                    have := m_set (l := L.map (·.1)) (s := s.data.toList) (k := k) (st := st) (f := f) (by rw [HML.out]; exact hk)
                    simp [meas', intOf]
                    first | exact this | (have e : ((k : Int) + 1).toNat = k + 1 := by omega); (rw [e]; exact this)
                | false =>
                  have c2 : wr.cell? ⟨L[k].2, (s[a]'hlt).toNat, none⟩ = some (.bool false) := by rw [blk_cell HKS.out, sc_get _ _ hb, hset]
                  have HNO := Lib.hid (show k < (L.map (·.1)).length → ((L.map (·.1)).getD k dfl).any = false ∧ ((L.map (·.1)).getD k dfl).set (s.data.toList.getD a 0).toNat = false from fun _ => by rw [HGD.out, HAT.out]; exact ⟨hany, hset⟩)
                  clear hso hany hset
                  generalize L[k].2 = bk at *
                  by_cases hst : 0 < st
                  · have HR := Lib.hid (HG.out ▸ (g_star (n := n) (f := f) HLA.out HNO.out hst).symm)
                    have hst1 : (0 : Int) ≤ (st : Int) - 1 := by omega
                    go_wp2
                    go_quiet (fail)
                    go_wp2
                    go_roundw
                    case rel => exact ⟨⟨n, st, f + 1, st, f + 1, by go_num, by go_num, rfl, by go_num, HR.out, by rw [HML.out]; omega, by rw [HSL.out]; omega, by omega, by omega⟩, HKR.out.drewN _⟩
                    case measure =>
                      have := m_star (l := L.map (·.1)) (s := s.data.toList) (k := k) (st := st) (f := f) (a := a) (by rw [HML.out]; omega) hfa HLA.out
                      simp [meas', intOf]
                      first | exact this | (have e : ((f : Int) + 1).toNat = f + 1 := by omega); (rw [e]; exact this)
                  · have HR := Lib.hid (show some false = some (mt (L.map (·.1)) s.data.toList) from HG.out ▸ (g_no (n := n) (f := f) HLA.out HNO.out hst).symm)
                    obtain rfl : st = 0 := by omega
                    go_wp2
                    go_quiet (fail)
                    go_wp2
                    try rw [Exit.noGoto_ret]
                    go_ret
                    exact ⟨ret_eq (by rw [HM.out, ← Option.some.inj HR.out]; rfl), HK1.out.then (HKR.out.drewN _)⟩
            · have hkd : decide (k < L.length) = false := by simpa using hk
              have HNO := Lib.hid (show k < (L.map (·.1)).length → ((L.map (·.1)).getD k dfl).any = false ∧ ((L.map (·.1)).getD k dfl).set (s.data.toList.getD a 0).toNat = false from fun h => absurd (show k < L.length from by rw [← HML.out]; exact h) hk)
              by_cases hst : 0 < st
              · have HR := Lib.hid (HG.out ▸ (g_star (n := n) (f := f) HLA.out HNO.out hst).symm)
                have hst1 : (0 : Int) ≤ (st : Int) - 1 := by omega
                go_wp2
                go_quiet (fail)
                go_wp2
                go_roundw
                case rel => exact ⟨⟨n, st, f + 1, st, f + 1, by go_num, by go_num, rfl, by go_num, HR.out, by rw [HML.out]; omega, by rw [HSL.out]; omega, by omega, by omega⟩, HKR.out.drewN _⟩
                case measure =>
                  have := m_star (l := L.map (·.1)) (s := s.data.toList) (k := k) (st := st) (f := f) (a := a) (by rw [HML.out]; omega) hfa HLA.out
                  simp [meas', intOf]
                  first | exact this | (have e : ((f : Int) + 1).toNat = f + 1 := by omega); (rw [e]; exact this)
              · have HR := Lib.hid (show some false = some (mt (L.map (·.1)) s.data.toList) from HG.out ▸ (g_no (n := n) (f := f) HLA.out HNO.out hst).symm)
                obtain rfl : st = 0 := by omega
                go_wp2
                go_quiet (fail)
                go_wp2
                try rw [Exit.noGoto_ret]
                go_ret
                exact ⟨ret_eq (by rw [HM.out, ← Option.some.inj HR.out]; rfl), HK1.out.then (HKR.out.drewN _)⟩
          · have hge := g_end (n := n) (k := k) (st := st) (f := f) (l := L.map (·.1)) (s := s.data.toList) (a := a) (by rw [HSL.out]; exact hlt)
            rw [HG.out] at hge
            have HR := Lib.hid (Option.some.inj hge)
            clear hge
            obtain rfl : a = s.size := by omega
            go_wp2
            obtain ⟨wo, rfl⟩ : ∃ wo : World, wo = wr := ⟨_, rfl⟩
            go_loopw [6] (fun iv wr => ∃ k' : Nat, iv = .int .i64 k' ∧ k' ≤ L.length ∧ PatL.mt (L.map (·.1)) s.data.toList = allAny ((L.map (·.1)).drop k') ∧ Keeps No w2 wr) (fun iv _ => L.length - (intOf iv).toNat)
            case atStart => exact ⟨k, rfl, hkl, HR.out, HKR.out⟩
            case round =>
              obtain ⟨k', rfl, hk', hm', hkr'⟩ := hrel
              have HM' := Lib.hid hm'
              have HKR' := Lib.hid hkr'
              clear hm' hkr'
              by_cases hk : k' < L.length
              · have h0 : 0 < L.length := by omega
                obtain ⟨g', hA, hc⟩ := HCL.out h0
                cases hA
                have c0 := (hc wr HKR'.out k' hk).1
                have HAD := Lib.hid (allAny_drop L k' hk)
                clear hc h0
                cases hany : L[k'].1.any with
                | true =>
                  rw [hany] at c0 HAD
                  clear hany
                  go_wp2
                  go_roundw
                  case rel => exact ⟨k' + 1, by go_num, by omega, by rw [HM'.out, HAD.out]; rfl, HKR'.out⟩
                  case measure => simp [intOf]; omega
                | false =>
                  rw [hany] at c0 HAD
                  clear hany
                  have hne : ((k' : Int) == (L.length : Int)) = false := by
                    have : ¬ (k' : Int) = (L.length : Int) := by omega
                    simpa using this
                  go_wp2
                  try rw [Exit.noGoto_ret]
                  go_ret
                  exact ⟨ret_eq (by rw [HM.out, HM'.out, HAD.out]; rfl), HK1.out.then HKR'.out⟩
              · obtain rfl : k' = L.length := by omega
                go_wp2
                try rw [Exit.noGoto_ret]
                go_ret
                exact ⟨ret_eq (by rw [HM.out, HM'.out, List.drop_eq_nil_of_le (by rw [List.length_map]; exact Nat.le_refl _)]; first | rfl | simp [allAny]), HK1.out.then HKR'.out⟩
    · have h0 : 0 < L.length := by rw [hL]; simp
      obtain ⟨g, rfl, hc⟩ := HCL.out h0
      have h3 := hc w2 (Keeps.refl _ _) 0 h0
      have hx : L[0] = x := by simp [hL]
      rw [hx, hown] at h3
      simp only [Nat.zero_mul, Nat.zero_add] at h3
      have h3b := h3.2.1
      have h3c := h3.2.2
      have hso := HI.out.sets x (by rw [hL]; simp)
      have ha := HOWN.out x.1 (by rw [hL]; simp) hown
      have hlen : (L.length : Int) ≠ 0 := by omega
      have hlz : ((L.length : Int) == 0) = false := by simpa using hlen
      have hl0 : (0 : Int) < (L.length : Int) := by omega
      rw [ha] at h3b
      have h3d : w2.cell? ⟨x.2, 46, none⟩ = some (.bool true) := by rw [blk_cell (hso ha).1, sc_get _ _ (by decide), h46]
      simp only [Bool.false_eq_true, if_false] at h3b
      clear hx hc h3 hlen hso ha hown h46 hL
      go_wp2
      go_step3
      go_wp2
      go_loopw [6, 7, 8, 9] (fun k a st f wr => MtI (L.map (·.1)) s.data.toList k a st f ∧ Keeps No w2 wr) (fun k a st f _ => meas' (L.map (·.1)) s.data.toList k st f)
      case atStart =>
        obtain ⟨n, hn⟩ := HGO.out
        exact ⟨⟨n, 0, 0, 0, 0, rfl, rfl, rfl, rfl, hn, by omega, by omega, by omega, by omega⟩, Keeps.refl _ _⟩
      case round =>
        obtain ⟨hM, hkr⟩ := hrel
        obtain ⟨n, k, a, st, f, rfl, rfl, rfl, rfl, hg, hkl, hal, hsk, hfa⟩ := hM.out
        have HKR := Lib.hid hkr
        have hml : (L.map (·.1)).length = L.length := List.length_map ..
        have hsl := data_length s
        have HG := Lib.hid hg
        rw [hml] at hkl
        rw [hsl] at hal
        have HML := Lib.hid hml
        have HSL := Lib.hid hsl
        clear hM hkr hg hml hsl
        cases n with
        | zero => have h := HG.out; simp [greedy] at h
        | succ n =>
          by_cases hlt : a < s.size
          · have hla : a < s.data.toList.length := by rw [HSL.out]; exact hlt
            have HLA := Lib.hid hla
            clear hla
            by_cases hk : k < L.length
            · have h0 : 0 < L.length := by omega
              obtain ⟨g', hA, hc⟩ := HCL.out h0
              cases hA
              have h3 := hc wr HKR.out k hk
              have hso := HI.out.sets L[k] (List.getElem_mem hk)
              have HGD := Lib.hid (map_getD L k hk)
              have HAT := Lib.hid (data_at s a hlt)
              have hb := (s[a]'hlt).toNat_lt
              have hbi : (((s[a]'hlt).toNat : Nat) : Int) < 256 := by omega
              have hbi0 : (0 : Int) ≤ (((s[a]'hlt).toNat : Nat) : Int) := by omega
              have c0 := h3.1
              have c1 := h3.2.1
              clear hc h3 h0
              have hkd : decide (k < L.length) = true := by simpa using hk
              have hki : (k : Int) < (L.length : Int) := by omega
              have hki0 : (0 : Int) ≤ (k : Int) := by omega
              have hai : (a : Int) < (s.size : Int) := by omega
              have hai0 : (0 : Int) ≤ (a : Int) := by omega
              cases hany : L[k].1.any with
              | true =>
                rw [hany] at c0 c1
                have HR := Lib.hid (HG.out ▸ (g_any (n := n) (st := st) (f := f) HLA.out (by rw [HML.out]; exact hk) (by rw [HGD.out]; exact hany)).symm)
                clear hso c1 hany hb hbi hbi0
                go_wp2
                go_roundw
                case rel => exact ⟨⟨n, k + 1, a, k + 1, a, by go_num, rfl, by simp, rfl, HR.out, by rw [HML.out]; omega, by rw [HSL.out]; omega, by omega, by omega⟩, HKR.out⟩
                case measure =>
                  have := m_any (l := L.map (·.1)) (s := s.data.toList) (k := k) (st := st) (f := f) (a := a) (by rw [HML.out]; exact hk) hsk hfa HLA.out
                  simp [meas', intOf]
                  first | exact this | (have e : ((k : Int) + 1).toNat = k + 1 := by omega); (rw [e]; exact this)
              | false =>
                rw [hany] at c0 c1
                simp only [Bool.false_eq_true, if_false] at c1
                have HS := Lib.hid (hso hany).1
                have HKS := Lib.hid (HKR.out.heap HS.out (fun h => h))
                cases hset : L[k].1.set (s[a]'hlt).toNat with
                | true =>
                  have c2 : wr.cell? ⟨L[k].2, (s[a]'hlt).toNat, none⟩ = some (.bool true) := by rw [blk_cell HKS.out, sc_get _ _ hb, hset]
                  have HR := Lib.hid (HG.out ▸ (g_set (n := n) (st := st) (f := f) HLA.out (by rw [HML.out]; exact hk) (by rw [HGD.out]; exact hany) (by rw [HGD.out, HAT.out]; exact hset)).symm)
                  clear hso hany hset
                  generalize L[k].2 = bk at *
                  go_wp2
                  go_quiet (fail)
                  go_wp2
                  go_roundw
                  case rel => exact ⟨⟨n, k + 1, a + 1, st, f, by go_num, by go_num, rfl, rfl, HR.out, by rw [HML.out]; omega, by rw [HSL.out]; omega, by omega, by omega⟩, HKR.out.drewN _⟩
                  case measure =>
                    have := m_set (l := L.map (·.1)) (s := s.data.toList) (k := k) (st := st) (f := f) (by rw [HML.out]; exact hk)
                    simp [meas', intOf]
                    first | exact this | (have e : ((k : Int) + 1).toNat = k + 1 := by omega); (rw [e]; exact this)
                | false =>
                  have c2 : wr.cell? ⟨L[k].2, (s[a]'hlt).toNat, none⟩ = some (.bool false) := by rw [blk_cell HKS.out, sc_get _ _ hb, hset]
                  have HNO := Lib.hid (show k < (L.map (·.1)).length → ((L.map (·.1)).getD k dfl).any = false ∧ ((L.map (·.1)).getD k dfl).set (s.data.toList.getD a 0).toNat = false from fun _ => by rw [HGD.out, HAT.out]; exact ⟨hany, hset⟩)
                  clear hso hany hset
                  generalize L[k].2 = bk at *
                  by_cases hst : 0 < st
                  · have HR := Lib.hid (HG.out ▸ (g_star (n := n) (f := f) HLA.out HNO.out hst).symm)
                    have hst1 : (0 : Int) ≤ (st : Int) - 1 := by omega
                    go_wp2
                    go_quiet (fail)
                    go_wp2
                    go_roundw
                    case rel => exact ⟨⟨n, st, f + 1, st, f + 1, by go_num, by go_num, rfl, by go_num, HR.out, by rw [HML.out]; omega, by rw [HSL.out]; omega, by omega, by omega⟩, HKR.out.drewN _⟩
                    case measure =>
                      have := m_star (l := L.map (·.1)) (s := s.data.toList) (k := k) (st := st) (f := f) (a := a) (by rw [HML.out]; omega) hfa HLA.out
                      simp [meas', intOf]
                      first | exact this | (have e : ((f : Int) + 1).toNat = f + 1 := by omega); (rw [e]; exact this)
                  · have HR := Lib.hid (show some false = some (mt (L.map (·.1)) s.data.toList) from HG.out ▸ (g_no (n := n) (f := f) HLA.out HNO.out hst).symm)
                    obtain rfl : st = 0 := by omega
                    go_wp2
                    go_quiet (fail)
                    go_wp2
                    try rw [Exit.noGoto_ret]
                    go_ret
                    exact ⟨ret_eq (by rw [HM.out, ← Option.some.inj HR.out]; rfl), HK1.out.then (HKR.out.drewN _)⟩
            · have hkd : decide (k < L.length) = false := by simpa using hk
              have HNO := Lib.hid (show k < (L.map (·.1)).length → ((L.map (·.1)).getD k dfl).any = false ∧ ((L.map (·.1)).getD k dfl).set (s.data.toList.getD a 0).toNat = false from fun h => absurd (show k < L.length from by rw [← HML.out]; exact h) hk)
              by_cases hst : 0 < st
              · have HR := Lib.hid (HG.out ▸ (g_star (n := n) (f := f) HLA.out HNO.out hst).symm)
                have hst1 : (0 : Int) ≤ (st : Int) - 1 := by omega
                go_wp2
                go_quiet (fail)
                go_wp2
                go_roundw
                case rel => exact ⟨⟨n, st, f + 1, st, f + 1, by go_num, by go_num, rfl, by go_num, HR.out, by rw [HML.out]; omega, by rw [HSL.out]; omega, by omega, by omega⟩, HKR.out.drewN _⟩
                case measure =>
                  have := m_star (l := L.map (·.1)) (s := s.data.toList) (k := k) (st := st) (f := f) (a := a) (by rw [HML.out]; omega) hfa HLA.out
                  simp [meas', intOf]
                  first | exact this | (have e : ((f : Int) + 1).toNat = f + 1 := by omega); (rw [e]; exact this)
              · have HR := Lib.hid (show some false = some (mt (L.map (·.1)) s.data.toList) from HG.out ▸ (g_no (n := n) (f := f) HLA.out HNO.out hst).symm)
                obtain rfl : st = 0 := by omega
                go_wp2
                go_quiet (fail)
                go_wp2
                try rw [Exit.noGoto_ret]
                go_ret
                exact ⟨ret_eq (by rw [HM.out, ← Option.some.inj HR.out]; rfl), HK1.out.then (HKR.out.drewN _)⟩
          · have hge := g_end (n := n) (k := k) (st := st) (f := f) (l := L.map (·.1)) (s := s.data.toList) (a := a) (by rw [HSL.out]; exact hlt)
            rw [HG.out] at hge
            have HR := Lib.hid (Option.some.inj hge)
            clear hge
            obtain rfl : a = s.size := by omega
            go_wp2
            obtain ⟨wo, rfl⟩ : ∃ wo : World, wo = wr := ⟨_, rfl⟩
            go_loopw [6] (fun iv wr => ∃ k' : Nat, iv = .int .i64 k' ∧ k' ≤ L.length ∧ PatL.mt (L.map (·.1)) s.data.toList = allAny ((L.map (·.1)).drop k') ∧ Keeps No w2 wr) (fun iv _ => L.length - (intOf iv).toNat)
            case atStart => exact ⟨k, rfl, hkl, HR.out, HKR.out⟩
            case round =>
              obtain ⟨k', rfl, hk', hm', hkr'⟩ := hrel
              have HM' := Lib.hid hm'
              have HKR' := Lib.hid hkr'
              clear hm' hkr'
              by_cases hk : k' < L.length
              · have h0 : 0 < L.length := by omega
                obtain ⟨g', hA, hc⟩ := HCL.out h0
                cases hA
                have c0 := (hc wr HKR'.out k' hk).1
                have HAD := Lib.hid (allAny_drop L k' hk)
                clear hc h0
                cases hany : L[k'].1.any with
                | true =>
                  rw [hany] at c0 HAD
                  clear hany
                  go_wp2
                  go_roundw
                  case rel => exact ⟨k' + 1, by go_num, by omega, by rw [HM'.out, HAD.out]; rfl, HKR'.out⟩
                  case measure => simp [intOf]; omega
                | false =>
                  rw [hany] at c0 HAD
                  clear hany
                  have hne : ((k' : Int) == (L.length : Int)) = false := by
                    have : ¬ (k' : Int) = (L.length : Int) := by omega
                    simpa using this
                  go_wp2
                  try rw [Exit.noGoto_ret]
                  go_ret
                  exact ⟨ret_eq (by rw [HM.out, HM'.out, HAD.out]; rfl), HK1.out.then HKR'.out⟩
              · obtain rfl : k' = L.length := by omega
                go_wp2
                try rw [Exit.noGoto_ret]
                go_ret
                exact ⟨ret_eq (by rw [HM.out, HM'.out, List.drop_eq_nil_of_le (by rw [List.length_map]; exact Nat.le_refl _)]; first | rfl | simp [allAny]), HK1.out.then HKR'.out⟩
end Go.Proofs.Ytobnljndaabkaaa
