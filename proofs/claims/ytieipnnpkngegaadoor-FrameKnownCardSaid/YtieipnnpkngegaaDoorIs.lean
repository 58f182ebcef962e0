/- What the reader tells at a piece: `is`. -/
import Derived.Test.YtieipnnpkngegaaDoorRf
namespace Go.Proofs.YtieipnnpkngegaaDoor
open Go.RowKit Go.Proofs.YtieipnnpkngegaaDoorW.PrintWords

/-- Is the next thing the piece? -/
def isO (s : RS) (p : Pce) : Bool :=
  if p.what = 1 then decide (natBE (takeO s 1) = p.n % 256) else if p.what = 2 then decide (natBE (takeO s 2) = p.n % 65536)
  else if p.what = 3 then decide (natBE (takeO s 4) = p.n % 4294967296) else if p.what = 4 then decide (natBE (takeO s 8) = p.n)
  else if p.what = 5 then decide (textO s = p.text.data.toList) else decide (takeO s p.text.size = p.text.data.toList)
def isS (s : RS) (p : Pce) : RS :=
  if p.what = 1 then takeS s 1 else if p.what = 2 then takeS s 2 else if p.what = 3 then takeS s 4 else if p.what = 4 then takeS s 8
  else if p.what = 5 then textS s else takeS s p.text.size
theorem RPost.before {a w w' : World} {g : Nat} {s : RS} (k : Keeps No a w) (h : RPost w g s w') : RPost a g s w' :=
  ⟨h.is, (k.mono (fun _ h => h.elim)).trans h.keeps (fun _ h => .inl h)⟩
/-- What `is` leaves. -/
def SEnd (w : World) (g : Nat) (s : RS) (p : Pce) (x : Ending) (w' : World) : Prop := x = .returned (.bool (isO s p)) ∧ RPost w g (isS s p) w'
theorem SEnd.of {w wa w' : World} {g : Nat} {s : RS} {p : Pce} {x : Ending} {b : Bool} {s1 : RS} (k : Keeps No w wa) (h : RPost wa g s1 w') (hb : b = isO s p) (hs : s1 = isS s p) (hx : x = .returned (.bool b)) : SEnd w g s p x w' := by
  subst hb hs
  exact ⟨hx, h.before k⟩
theorem dec_num (a b : Nat) : decide ((a : Int) = (b : Int)) = decide (a = b) := by
  by_cases h : a = b
  · simp [h]
  · simp [h, Int.ofNat_inj]
theorem beq_num (a b : Nat) : ((a : Int) == (b : Int)) = decide (a = b) := by
  rw [← dec_num]; rfl
theorem toList_loop (b : ByteArray) : ∀ (m i : Nat) (r : List UInt8), b.size - i ≤ m → ByteArray.toList.loop b i r = r.reverse ++ b.data.toList.drop i := by
  intro m
  induction m with
  | zero =>
    intro i r h
    rw [ByteArray.toList.loop, if_neg (by omega), List.drop_eq_nil_of_le (by have := data_length b; omega), List.append_nil]
  | succ m ih =>
    intro i r h
    rw [ByteArray.toList.loop]
    by_cases hi : i < b.size
    · rw [if_pos hi, ih _ _ (by omega)]
      have hlt : i < b.data.toList.length := by have := data_length b; omega
      rw [List.drop_eq_getElem_cons hlt]
      have : b.get! i = b.data.toList[i] := by
        obtain ⟨⟨d⟩⟩ := b
        simp at hlt
        simp [ByteArray.get!, hlt]
      simp [this]
    · rw [if_neg hi, List.drop_eq_nil_of_le (by have := data_length b; omega), List.append_nil]
theorem toList_data (b : ByteArray) : b.toList = b.data.toList := by
  rw [ByteArray.toList, toList_loop b b.size 0 [] (by omega)]
  rfl
theorem beq_str (l : List UInt8) (s : ByteArray) : (l == s.toList) = decide (l = s.data.toList) := by
  rw [toList_data]
  by_cases h : l = s.data.toList <;> simp [h]

set_option maxRecDepth 100000 in
set_option maxHeartbeats 3200000 in
theorem is_any (w : World) (g : Nat) (s : RS) (hI : IsR w g s) (hl : s.l.length ≤ 140737488355328) (p : Pce) (hp : p.Ok) :
    Calls Tryd.prog 37 #[.pointer (some ⟨g, 0, none⟩), .agg #[.int .i64 p.what, .int .u64 p.n, .string p.text]] w (SEnd w g s p) := by
  have hb := hp.num
  have ht := hp.text
  obtain ⟨what, n, text⟩ := p
  simp only at hb ht
  have hwr8 : IntKind.u8.wrap (n : Int) = ((n % 256 : Nat) : Int) := by rw [IntKind.wrap_u8]; omega
  have hwr := IntKind.wrap_u16 (n : Int)
  have hwr2 := IntKind.wrap_u32' (n : Int)
  have hg := hI.lt
  have hcell : ∀ W : World, W.heap[w.heap.size]? = some (.cells #[.int .i64 what, .int .u64 n, .string text] 35 (0, 0)) → W.cell? ⟨w.heap.size, 1, none⟩ = some (.int .u64 n) := fun W h => by rw [blk_cell h]; rfl
  have hcell2 : ∀ W : World, W.heap[w.heap.size]? = some (.cells #[.int .i64 what, .int .u64 n, .string text] 35 (0, 0)) → W.cell? ⟨w.heap.size, 2, none⟩ = some (.string text) := fun W h => by rw [blk_cell h]; rfl
  have HC := Lib.hid hcell
  have HC2 := Lib.hid hcell2
  clear hcell hcell2
  have HK := Lib.hid ((Keeps.refl No w).alloc (.cells #[.int .i64 what, .int .u64 n, .string text] 35))
  have HI := Lib.hid (hI.keptNo HK.out)
  clear hI
  by_cases h1 : what = 1
  · subst h1
    have HB := Lib.hid (show decide (natBE (takeO s 1) = n % 256) = isO s ⟨1, n, text⟩ from rfl)
    go_enter Tryd.func37, Tryd.ntmps37
    go_wp2
    go_region_with (go_at_call 26; refine (rbyte_any _ g s (by first | exact HI.out | exact HI.out.keptNo ((Keeps.refl No _).drew) | exact HI.out.drawn _) hl).mono ?_; rintro e wx ⟨rfl, hx⟩; have HX := Lib.hid hx; have hc1 := HC.out wx (hx.keeps.heap (by show (w.heap.push _)[w.heap.size]? = _; simp) (by show ¬ w.heap.size = g; omega)); clear hx)
    all_goals
      go_wp2
      go_ret
      refine SEnd.of (by first | exact HK.out | exact HK.out.drew | exact HK.out.drewN _) HX.out ?_ (by rfl) rfl
      rw [← HB.out]
      exact beq_num _ (n % _)
  by_cases h2 : what = 2
  · subst h2
    have HB := Lib.hid (show decide (natBE (takeO s 2) = n % 65536) = isO s ⟨2, n, text⟩ from rfl)
    go_enter Tryd.func37, Tryd.ntmps37
    go_wp2
    go_region_with (go_at_call 28; refine (rtwo_any _ g s (by first | exact HI.out | exact HI.out.keptNo ((Keeps.refl No _).drew) | exact HI.out.drawn _) hl).mono ?_; rintro e wx ⟨rfl, hx⟩; have HX := Lib.hid hx; have hc1 := HC.out wx (hx.keeps.heap (by show (w.heap.push _)[w.heap.size]? = _; simp) (by show ¬ w.heap.size = g; omega)); clear hx)
    all_goals
      go_wp2
      go_ret
      refine SEnd.of (by first | exact HK.out | exact HK.out.drew | exact HK.out.drewN _) HX.out ?_ (by rfl) rfl
      rw [← HB.out]
      exact beq_num _ (n % _)
  by_cases h3 : what = 3
  · subst h3
    have HB := Lib.hid (show decide (natBE (takeO s 4) = n % 4294967296) = isO s ⟨3, n, text⟩ from rfl)
    go_enter Tryd.func37, Tryd.ntmps37
    go_wp2
    go_region_with (go_at_call 29; refine (rfour_any _ g s (by first | exact HI.out | exact HI.out.keptNo ((Keeps.refl No _).drew) | exact HI.out.drawn _) hl).mono ?_; rintro e wx ⟨rfl, hx⟩; have HX := Lib.hid hx; have hc1 := HC.out wx (hx.keeps.heap (by show (w.heap.push _)[w.heap.size]? = _; simp) (by show ¬ w.heap.size = g; omega)); clear hx)
    all_goals
      go_wp2
      go_ret
      refine SEnd.of (by first | exact HK.out | exact HK.out.drew | exact HK.out.drewN _) HX.out ?_ (by rfl) rfl
      rw [← HB.out]
      exact beq_num _ (n % _)
  by_cases h4 : what = 4
  · subst h4
    have HB := Lib.hid (show decide (natBE (takeO s 8) = n) = isO s ⟨4, n, text⟩ from rfl)
    go_enter Tryd.func37, Tryd.ntmps37
    go_wp2
    go_region_with (go_at_call 30; refine (reight_any _ g s (by first | exact HI.out | exact HI.out.keptNo ((Keeps.refl No _).drew) | exact HI.out.drawn _) hl).mono ?_; rintro e wx ⟨rfl, hx⟩; have HX := Lib.hid hx; have hc1 := HC.out wx (hx.keeps.heap (by show (w.heap.push _)[w.heap.size]? = _; simp) (by show ¬ w.heap.size = g; omega)); clear hx)
    all_goals
      go_wp2
      go_ret
      refine SEnd.of (by first | exact HK.out | exact HK.out.drew | exact HK.out.drewN _) HX.out ?_ (by rfl) rfl
      rw [← HB.out]
      exact beq_num _ n
  by_cases h5 : what = 5
  · subst h5
    have HB := Lib.hid (show decide (textO s = text.data.toList) = isO s ⟨5, n, text⟩ from rfl)
    go_enter Tryd.func37, Tryd.ntmps37
    go_wp2
    go_region_with (go_at_call 31; refine (rtext_any _ g s (by first | exact HI.out | exact HI.out.keptNo ((Keeps.refl No _).drew) | exact HI.out.drawn _) hl).mono ?_; rintro e wx ⟨rfl, hx⟩; have HX := Lib.hid hx; have hc1 := HC2.out wx (hx.keeps.heap (by show (w.heap.push _)[w.heap.size]? = _; simp) (by show ¬ w.heap.size = g; omega)); clear hx)
    all_goals
      go_wp2
      go_ret
      refine SEnd.of (by first | exact HK.out | exact HK.out.drew | exact HK.out.drewN _) HX.out ?_ (by rfl) rfl
      rw [← HB.out]
      exact beq_str _ _
  have b1 : (what == 1) = false := beq_eq_false_iff_ne.2 h1
  have b2 : (what == 2) = false := beq_eq_false_iff_ne.2 h2
  have b3 : (what == 3) = false := beq_eq_false_iff_ne.2 h3
  have b4 : (what == 4) = false := beq_eq_false_iff_ne.2 h4
  have b5 : (what == 5) = false := beq_eq_false_iff_ne.2 h5
  have HB := Lib.hid (show isO s ⟨what, n, text⟩ = decide (takeO s text.size = text.data.toList) by simp [isO, h1, h2, h3, h4, h5])
  have HS := Lib.hid (show takeS s text.size = isS s ⟨what, n, text⟩ by simp [isS, h1, h2, h3, h4, h5])
  clear h1 h2 h3 h4 h5
  go_enter Tryd.func37, Tryd.ntmps37
  go_wp2
  go_region_with (go_at_call 24; refine (take_any _ g s (by first | exact HI.out | exact HI.out.keptNo ((Keeps.refl No _).drew) | exact HI.out.drawn _) text.size (by omega) hl).mono ?_; rintro e wx ⟨r, rfl, ho, hx⟩; simp only [Int.toNat_natCast] at ho hx; obtain ⟨A2, c2, rfl, _, hR2⟩ := ho.rd; have HX := Lib.hid hx; have hstr := rd_string (P := Tryd.prog) Tryd.underlying22 Tryd.underlying5 Tryd.underlying9 hR2 c2; have hc1 := HC2.out wx (hx.keeps.heap (by show (w.heap.push _)[w.heap.size]? = _; simp) (by show ¬ w.heap.size = g; omega)); clear hx ho hR2)
  all_goals
    clear hstr
    go_wp2
    go_ret
    refine SEnd.of (by first | exact HK.out | exact HK.out.drew | exact HK.out.drewN _) HX.out ?_ (by exact HS.out) rfl
    rw [HB.out]
    exact beq_str _ _
end Go.Proofs.YtieipnnpkngegaaDoor
