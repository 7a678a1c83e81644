/- Walk: l8Read; Walks: l2Cut, ParseExpr; Walks: ParseExpr; Walks: drawing a word; An automaton that is being drawn: what its loops keep in memory. No condition. -/
import Derived.Test.YtmnhpbbapkcdjaaGreatA13

/- Walk: l8Read. -/
namespace Go.Proofs.YtmnhpbbapkcdjaaGreat
open Go.RowKit
theorem set4 {w : World} {g : Nat} {t : TypeId} {u0 u1 u2 u3 v0 v1 v2 v3 : Value} (h : Blk w g t #[u0, u1, u2, u3]) : Blk ((((w.setCell ⟨g, 0, none⟩ v0).setCell ⟨g, 1, none⟩ v1).setCell ⟨g, 2, none⟩ v2).setCell ⟨g, 3, none⟩ v3) g t #[v0, v1, v2, v3] := by
  have := (((h.set_ 0 v0).set_ 1 v1).set_ 2 v2).set_ 3 v3
  simpa using this
theorem below_set4 {B g : Nat} {w w' : World} {v0 v1 v2 v3 : Value} (h : Below B w w') (hg : B ≤ g) : Below B w ((((w'.setCell ⟨g, 0, none⟩ v0).setCell ⟨g, 1, none⟩ v1).setCell ⟨g, 2, none⟩ v2).setCell ⟨g, 3, none⟩ v3) :=
  below_set (below_set (below_set (below_set h hg _ _) hg _ _) hg _ _) hg _ _
theorem idx_some (s : ByteArray) (i : Int) (h0 : 0 ≤ i) (h : i < s.size) : ∃ a : Int, ∀ w, (Instr.index 9 (.string s) (.int .i64 i)).run Tryz.prog w = .ok (.int .u8 a) w :=
  ⟨_, fun w => by rw [run_index_string w 9 s .i64 _ Tryz.underlying9, dif_pos ⟨h0, h⟩]⟩
def SomeTk (w : World) (e : Ending) (w' : World) : Prop := ∃ k l lo hi : Int, e = .returned (.agg #[.int .i64 k, .int .i64 l, .int .i64 lo, .int .i64 hi]) ∧ Below w.heap.size w w'
set_option maxRecDepth 100000 in
set_option maxHeartbeats 2000000 in
theorem l8Read_some (s : ByteArray) (hs : s.size ≤ 1000) (w : World) : Calls Tryz.prog 113 #[.string s] w fun e w' => SomeTk w e w' := by
  have hR := Blk.new w 89 #[.int .i64 0, .int .i64 0, .int .i64 0, .int .i64 0]
  obtain ⟨W0, hW0⟩ : ∃ W0, W0 = w.alloc (.cells #[.int .i64 0, .int .i64 0, .int .i64 0, .int .i64 0] 89) := ⟨_, rfl⟩
  have hb0 : Below w.heap.size w W0 := by rw [hW0]; exact below_alloc w _
  have hs0 : w.heap.size + 1 = W0.heap.size := by rw [hW0]; simp
  go_enter Tryz.func113, Tryz.ntmps113
  go_wp2_with fail
  rw [← hW0] at hR ⊢
  clear hW0
  go_loopw [3] (fun kv wr => ∃ k : Nat, 1 ≤ k ∧ k ≤ 7 ∧ kv = .int .i64 k ∧ Below W0.heap.size W0 wr) (fun kv _ => 7 - (intOf kv).toNat)
  case atStart => exact ⟨1, by omega, by omega, rfl, Below.refl _ _⟩
  case round =>
    obtain ⟨k, hk1, hk7, rfl, hb⟩ := hrel
    have hRr := hR.below hb hR.lt
    have hbw := hb0.trans (hb.mono (by omega))
    have hsz := hb.size
    by_cases hlt : k ≤ 6
    · by_cases h3 : k = 3
      · subst h3
        go_wp2_with fail
        go_roundw
        case rel => exact ⟨4, by omega, by omega, by go_num, hb⟩
        case measure => simp [intOf]
      · have hki : (k : Int) ≤ 6 := by omega
        have h3i : ¬ (k : Int) = 3 := by omega
        go_wp2_with fail
        refine (l8Token_some k _ (by omega)).mono ?_
        rintro e w1 ⟨t, rfl, hb1⟩
        have hb2 := hb.trans (hb1.mono hb.size)
        have hbw2 := hb0.trans (hb2.mono (by omega))
        have hR1 := hRr.below hb1 hRr.lt
        have r0 := hR1.cell 0; have r1 := hR1.cell 1; have r2 := hR1.cell 2; have r3 := hR1.cell 3
        have z0 := hR1.frozen 0; have z1 := hR1.frozen 1; have z2 := hR1.frozen 2; have z3 := hR1.frozen 3
        have l1 := hR1.lt
        simp at r0 r1 r2 r3
        have T := set4 (v0 := .int .i64 k) (v1 := .int .i64 0) (v2 := .int .i64 0) (v3 := .int .i64 0) hR1
        have t0 := T.cell 0; have t1 := T.cell 1; have t2 := T.cell 2; have t3 := T.cell 3
        simp at t0 t1 t2 t3
        go_wp2_with fail
        · refine bodyPost_ret (v := .agg #[.int .i64 k, .int .i64 0, .int .i64 0, .int .i64 0]) (by simp [results, Tryz.results113, go_sem, t0, t1, t2, t3]) rfl ?_
          exact ⟨_, _, _, _, rfl, below_set4 hbw2 (Nat.le_refl _)⟩
        · go_roundw
          case rel => exact ⟨k + 1, by omega, by omega, by go_num, hb2⟩
          case measure => simp [intOf]; omega
    · have hki : ¬ (k : Int) ≤ 6 := by omega
      go_wp2_with fail
      refine (ParseLetter_some s _).mono ?_
      rintro e w1 ⟨n, ok, rfl, hb1⟩
      have hb2 := hb.trans (hb1.mono hb.size)
      have hbw2 := hb0.trans (hb2.mono (by omega))
      have hR1 := hRr.below hb1 hRr.lt
      have r0 := hR1.cell 0; have r1 := hR1.cell 1; have r2 := hR1.cell 2; have r3 := hR1.cell 3
      have z0 := hR1.frozen 0; have z1 := hR1.frozen 1; have z2 := hR1.frozen 2; have z3 := hR1.frozen 3
      have l1 := hR1.lt
      simp at r0 r1 r2 r3
      cases ok with
      | true =>
        have T := set4 (v0 := .int .i64 3) (v1 := .int .i64 n) (v2 := .int .i64 0) (v3 := .int .i64 0) hR1
        have t0 := T.cell 0; have t1 := T.cell 1; have t2 := T.cell 2; have t3 := T.cell 3
        simp at t0 t1 t2 t3
        go_wp2_with fail
        refine bodyPost_ret (v := .agg #[.int .i64 3, .int .i64 n, .int .i64 0, .int .i64 0]) (by simp [results, Tryz.results113, go_sem, t0, t1, t2, t3]) rfl ?_
        exact ⟨_, _, _, _, rfl, below_set4 hbw2 (Nat.le_refl _)⟩
      | false =>
        have T := set4 (v0 := .int .i64 0) (v1 := .int .i64 0) (v2 := .int .i64 0) (v3 := .int .i64 0) hR1
        have t0 := T.cell 0; have t1 := T.cell 1; have t2 := T.cell 2; have t3 := T.cell 3
        simp at t0 t1 t2 t3
        by_cases h5 : s.size = 5
        · have h5i : ((s.size : Int) == 5) = true := by simp; omega
          obtain ⟨a0, i0⟩ := idx_some s 0 (by omega) (by omega)
          obtain ⟨a1, i1⟩ := idx_some s 1 (by omega) (by omega)
          obtain ⟨a2, i2⟩ := idx_some s 2 (by omega) (by omega)
          obtain ⟨a3, i3⟩ := idx_some s 3 (by omega) (by omega)
          obtain ⟨a4, i4⟩ := idx_some s 4 (by omega) (by omega)
          clear h5
          cases d0 : (a0 == 123)
          · go_wp2_with fail
            refine bodyPost_ret (v := .agg #[.int .i64 0, .int .i64 0, .int .i64 0, .int .i64 0]) (by simp [results, Tryz.results113, go_sem, t0, t1, t2, t3]) rfl ?_
            exact ⟨_, _, _, _, rfl, below_set4 hbw2 (Nat.le_refl _)⟩
          · cases d2 : (a2 == 44)
            · go_wp2_with fail
              refine bodyPost_ret (v := .agg #[.int .i64 0, .int .i64 0, .int .i64 0, .int .i64 0]) (by simp [results, Tryz.results113, go_sem, t0, t1, t2, t3]) rfl ?_
              exact ⟨_, _, _, _, rfl, below_set4 hbw2 (Nat.le_refl _)⟩
            · cases d4 : (a4 == 125)
              · go_wp2_with fail
                refine bodyPost_ret (v := .agg #[.int .i64 0, .int .i64 0, .int .i64 0, .int .i64 0]) (by simp [results, Tryz.results113, go_sem, t0, t1, t2, t3]) rfl ?_
                exact ⟨_, _, _, _, rfl, below_set4 hbw2 (Nat.le_refl _)⟩
              · go_upto_region 10 with fail
                have hS0 : (fun _ : World => True) w1.drew := trivial
                refine wp_region_X (fun _ : World => True) 9 (by kernel_rfl) ?_
                (refine wpX_take (i := 0) (v := ?_) (by simp only [List.getElem?_toArray, List.getElem?_cons_succ, List.getElem?_cons_zero]; rfl) (by kernel_rfl) (by kernel_rfl) (by kernel_rfl) (by kernel_rfl) (by exact fun _ _ _ h => h) (Or.inl ⟨by rfl, ?_⟩) (by assumption) ?_; rotate_left; (intro w hSw; (try dsimp only at hSw); go_simp); (try with_reducible rfl); (try simp only [Act.put, List.setIfInBounds_toArray, List.set_cons_zero, List.set_cons_succ]))
                (refine wpX_take (i := 1) (v := ?_) (by simp only [List.getElem?_toArray, List.getElem?_cons_succ, List.getElem?_cons_zero]; rfl) (by kernel_rfl) (by kernel_rfl) (by kernel_rfl) (by kernel_rfl) (by exact fun _ _ _ h => h) (Or.inl ⟨by rfl, ?_⟩) (by assumption) ?_; rotate_left; (intro w hSw; (try dsimp only at hSw); go_simp); (try with_reducible rfl); (try simp only [Act.put, List.setIfInBounds_toArray, List.set_cons_zero, List.set_cons_succ]))
                (refine wpX_take (i := 2) (v := ?_) (by simp only [List.getElem?_toArray, List.getElem?_cons_succ, List.getElem?_cons_zero]; rfl) (by kernel_rfl) (by kernel_rfl) (by kernel_rfl) (by kernel_rfl) (by exact fun _ _ _ h => h) (Or.inl ⟨by rfl, ?_⟩) (by assumption) ?_; rotate_left; (intro w hSw; (try dsimp only at hSw); go_simp); (try with_reducible rfl); (try simp only [Act.put, List.setIfInBounds_toArray, List.set_cons_zero, List.set_cons_succ]))
                (refine wpX_take (i := 3) (v := ?_) (by simp only [List.getElem?_toArray, List.getElem?_cons_succ, List.getElem?_cons_zero]; rfl) (by kernel_rfl) (by kernel_rfl) (by kernel_rfl) (by kernel_rfl) (by exact fun _ _ _ h => h) (Or.inl ⟨by rfl, ?_⟩) (by assumption) ?_; rotate_left; (intro w hSw; (try dsimp only at hSw); go_simp); (try with_reducible rfl); (try simp only [Act.put, List.setIfInBounds_toArray, List.set_cons_zero, List.set_cons_succ]))
                (refine wpX_take (i := 4) (v := ?_) (by simp only [List.getElem?_toArray, List.getElem?_cons_succ, List.getElem?_cons_zero]; rfl) (by kernel_rfl) (by kernel_rfl) (by kernel_rfl) (by kernel_rfl) (by exact fun _ _ _ h => h) (Or.inl ⟨by rfl, ?_⟩) (by assumption) ?_; rotate_left; (intro w hSw; (try dsimp only at hSw); go_simp); (try with_reducible rfl); (try simp only [Act.put, List.setIfInBounds_toArray, List.set_cons_zero, List.set_cons_succ]))
                (refine wpX_take (i := 5) (v := ?_) (by simp only [List.getElem?_toArray, List.getElem?_cons_succ, List.getElem?_cons_zero]; rfl) (by kernel_rfl) (by kernel_rfl) (by kernel_rfl) (by kernel_rfl) (by exact fun _ _ _ h => h) (Or.inl ⟨by rfl, ?_⟩) (by assumption) ?_; rotate_left; (intro w hSw; (try dsimp only at hSw); go_simp); (try with_reducible rfl); (try simp only [Act.put, List.setIfInBounds_toArray, List.set_cons_zero, List.set_cons_succ]))
                (refine wpX_take (i := 6) (v := ?_) (by simp only [List.getElem?_toArray, List.getElem?_cons_succ, List.getElem?_cons_zero]; rfl) (by kernel_rfl) (by kernel_rfl) (by kernel_rfl) (by kernel_rfl) (by exact fun _ _ _ h => h) (Or.inl ⟨by rfl, ?_⟩) (by assumption) ?_; rotate_left; (intro w hSw; (try dsimp only at hSw); go_simp); (try with_reducible rfl); (try simp only [Act.put, List.setIfInBounds_toArray, List.set_cons_zero, List.set_cons_succ]))
                (refine wpX_take (i := 7) (v := ?_) (by simp only [List.getElem?_toArray, List.getElem?_cons_succ, List.getElem?_cons_zero]; rfl) (by kernel_rfl) (by kernel_rfl) (by kernel_rfl) (by kernel_rfl) (by exact fun _ _ _ h => h) (Or.inl ⟨by rfl, ?_⟩) (by assumption) ?_; rotate_left; (intro w hSw; (try dsimp only at hSw); go_simp); (try with_reducible rfl); (try simp only [Act.put, List.setIfInBounds_toArray, List.set_cons_zero, List.set_cons_succ]))
                (refine wpX_take (i := 8) (v := ?_) (by simp only [List.getElem?_toArray, List.getElem?_cons_succ, List.getElem?_cons_zero]; rfl) (by kernel_rfl) (by kernel_rfl) (by kernel_rfl) (by kernel_rfl) (by exact fun _ _ _ h => h) (Or.inl ⟨by rfl, ?_⟩) (by assumption) ?_; rotate_left; (intro w hSw; (try dsimp only at hSw); go_simp); (try with_reducible rfl); (try simp only [Act.put, List.setIfInBounds_toArray, List.set_cons_zero, List.set_cons_succ]))
                refine wpX_one (i := 9) (by kernel_rfl) (by simp only [List.getElem?_toArray, List.getElem?_cons_succ, List.getElem?_cons_zero]; rfl) (fun K hK => ?_)
                go_simp
                (refine hK.out _ _ (Or.inl rfl) ?_; clear hK; (try simp only [Act.put, List.setIfInBounds_toArray, List.set_cons_zero, List.set_cons_succ]))
                refine wpX_done (by kernel_rfl) ?_ _
                have T := set4 (v0 := .int .i64 7) (v1 := .int .i64 0) (v2 := (.int .i64 (IntKind.i64.wrap (IntKind.i64.wrap a1 - 48)))) (v3 := (.int .i64 (IntKind.i64.wrap (IntKind.i64.wrap a3 - 48)))) hR1
                have t0 := T.cell 0; have t1 := T.cell 1; have t2 := T.cell 2; have t3 := T.cell 3
                simp at t0 t1 t2 t3
                go_wp2_with fail
                refine bodyPost_ret (v := .agg #[.int .i64 7, .int .i64 0, (.int .i64 (IntKind.i64.wrap (IntKind.i64.wrap a1 - 48))), (.int .i64 (IntKind.i64.wrap (IntKind.i64.wrap a3 - 48)))]) (by simp [results, Tryz.results113, go_sem, t0, t1, t2, t3]) rfl ?_
                exact ⟨_, _, _, _, rfl, (below_set4 hbw2 (Nat.le_refl _)).drew⟩
        · have h5i : ¬ (s.size : Int) = 5 := by omega
          go_wp2_with fail
          refine bodyPost_ret (v := .agg #[.int .i64 0, .int .i64 0, .int .i64 0, .int .i64 0]) (by simp [results, Tryz.results113, go_sem, t0, t1, t2, t3]) rfl ?_
          exact ⟨_, _, _, _, rfl, below_set4 hbw2 (Nat.le_refl _)⟩
end Go.Proofs.YtmnhpbbapkcdjaaGreat

/- Walks: l2Cut, ParseExpr. -/
namespace Go.Proofs.YtmnhpbbapkcdjaaGreat
open Go.RowKit

theorem elStr : El Tryz.prog 109 9 (.string ⟨#[]⟩) 1 16 := ⟨Tryz.underlying109, by kernel_rfl, rfl, by decide⟩
def CutRes (w : World) (n : Nat) (e : Ending) (w' : World) : Prop :=
  ∃ A m c L, e = .returned (.slice A m c) ∧ w'.ownsRow w.heap.size 9 1 (.slice A m c) m (strs' L) ∧ Below w.heap.size w w' ∧ m ≤ n + 1 ∧ ∀ t ∈ L, t.size ≤ n
theorem ext_le (s : ByteArray) (a b : Nat) : (s.extract a b).size ≤ s.size := by rw [ByteArray.size_extract]; omega
theorem strs_snoc (L : List ByteArray) (t : ByteArray) : strs' (L ++ [t]) = strs' L ++ [.string t] := by simp [strs']
set_option maxRecDepth 100000 in
set_option maxHeartbeats 1000000 in
theorem l2Cut_some (s : ByteArray) (sep : Int) (hs : s.size ≤ 1000) (w : World) : Calls Tryz.prog 112 #[.string s, .int .u8 sep] w fun e w' => CutRes w s.size e w' := by
  have hI0 := own0 (w := w) (e := 9) (size := 1) (base := w.heap.size) rfl (Nat.le_refl _)
  go_enter Tryz.func112, Tryz.ntmps112
  go_wp2_with fail
  go_loopw [5, 6, 7] (fun v5 v6 v7 wr => ∃ (k fr m c gx : Nat) (L : List ByteArray), k ≤ s.size ∧ fr ≤ k ∧ m ≤ k ∧ v7 = .int .i64 k ∧ v6 = .int .i64 fr ∧ v5 = .slice (some ⟨gx, 0, none⟩) m c ∧ wr.ownsRow w.heap.size 9 1 v5 m (strs' L) ∧ Below w.heap.size w wr ∧ Hid (∀ t ∈ L, t.size ≤ s.size)) (fun _ _ v _ => s.size - (intOf v).toNat)
  case atStart => exact ⟨0, 0, 0, _, _, [], by omega, by omega, by omega, rfl, rfl, rfl, hI0, below_alloc _ _, Lib.hid (by simp)⟩
  case round =>
    clear hI0
    obtain ⟨k, fr, m, c, gx, L, hk, hfr, hm, rfl, rfl, rfl, hI, hb, HL⟩ := hrel
    have hws := hb.size
    have hfi : (fr : Int) ≤ (k : Int) := by omega
    have hfs : (fr : Int) ≤ (s.size : Int) := by omega
    have hks : (k : Int) ≤ (s.size : Int) := by omega
    by_cases hlt : k < s.size
    · have hki : (k : Int) < (s.size : Int) := by omega
      obtain ⟨ak, ik⟩ := idx_some s k (by omega) hki
      cases hsep : (ak == sep)
      · go_wp2_with fail
        go_roundw
        case rel => exact ⟨k + 1, fr, m, c, gx, L, by omega, by omega, by omega, by go_num, rfl, rfl, hI, hb, HL⟩
        case measure => simp [intOf]; omega
      · go_wp2_with (at_builtin; refine wpList_app1 elStr rfl (.tmp 20) (.tmp 25) rfl w.heap.size _ m (strs' L) rfl hI #[.string (s.extract fr k)] _ rfl (by simp) rfl (by simp [Value.oneCell']) (by omega) (by omega) hws ?_; intro g4 c4 w4 ho4 hg4 _ _ _; have hb4 := hb.grown hg4 hws (own_ge hI))
        go_roundw
        case rel => exact ⟨k + 1, k + 1, m + 1, c4, g4, L ++ [s.extract fr k], by omega, by omega, by omega, by go_num, by go_num, rfl, by rw [strs_snoc]; exact ho4, hb4, Lib.hid (fun t ht => by rcases List.mem_append.1 ht with ht | ht; exact HL.out t ht; (simp at ht; subst ht; exact ext_le _ _ _))⟩
        case measure => simp [intOf]; omega
    · have hki : ¬ (k : Int) < (s.size : Int) := by omega
      go_wp2_with (at_builtin; refine wpList_app1 elStr rfl (.tmp 29) (.tmp 33) rfl w.heap.size _ m (strs' L) rfl hI #[.string (s.extract fr s.size)] _ rfl (by simp) rfl (by simp [Value.oneCell']) (by omega) (by omega) hws ?_; intro g4 c4 w4 ho4 hg4 _ _ _; have hb4 := hb.grown hg4 hws (own_ge hI))
      go_ret
      exact ⟨_, _, _, L ++ [s.extract fr s.size], rfl, by rw [strs_snoc]; exact ho4, hb4, by omega, fun t ht => by rcases List.mem_append.1 ht with ht | ht; exact HL.out t ht; (simp at ht; subst ht; exact ext_le _ _ _)⟩
end Go.Proofs.YtmnhpbbapkcdjaaGreat

/- Walks: ParseExpr. -/
namespace Go.Proofs.YtmnhpbbapkcdjaaGreat
open Go.RowKit

def PEx (w : World) (e : Ending) (w' : World) : Prop :=
  ∃ v ok L, e = .returned (.tuple #[v, .bool ok]) ∧ ExO w' w.heap.size v L ∧ Below w.heap.size w w' ∧ L.length ≤ 25
/-- what ParseExpr's loop keeps -/
structure PEl (w W1 : World) (ls : Value) (m : Nat) (Ls : List ByteArray) (k : Nat) (T : List Tk) (va : Value) (wr : World) : Prop where
  e : Blk wr (w.heap.size + 1) 66 #[va]
  r : Blk wr w.heap.size 66 #[.slice none 0 0]
  t : wr.ownsRow (w.heap.size + 1 + 1) 89 4 va k (tks T)
  l : wr.ownsRow (w.heap.size + 1 + 1) 9 1 ls m (strs' Ls)
  b : Below w.heap.size w wr
  n : T.length = k
section
variable {w W1 wr w' : World} {ls va : Value} {m k : Nat} {Ls : List ByteArray} {T : List Tk}
theorem PEl.below (h : PEl w W1 ls m Ls k T va wr) (hb : Below wr.heap.size wr w') : PEl w W1 ls m Ls k T va w' :=
  ⟨h.e.below hb h.e.lt, h.r.below hb h.r.lt, own_below h.t hb, own_below h.l hb, h.b.trans (hb.mono h.b.size), h.n⟩
theorem PEl.drew (h : PEl w W1 ls m Ls k T va wr) : PEl w W1 ls m Ls k T va wr.drew := ⟨h.e, h.r, h.t, h.l, h.b.drew, h.n⟩
theorem PEl.push {g c : Nat} {x : Tk} (h : PEl w W1 ls m Ls k T va wr) (ho : w'.ownsRow (w.heap.size + 1 + 1) 89 4 (.slice (some ⟨g, 0, none⟩) (k + 1) c) (k + 1) (tks T ++ x.cells)) (hg : wr.grownBy w' va.ownBlock) :
    PEl w W1 ls m Ls (k + 1) (T ++ [x]) (.slice (some ⟨g, 0, none⟩) (k + 1) c) (w'.setCell ⟨w.heap.size + 1, 0, none⟩ (.slice (some ⟨g, 0, none⟩) (k + 1) c)) := by
  have hge := own_ge h.t
  have hE := h.e.grown hg (own_blk_ne h.t h.e (by decide))
  have hR := h.r.grown hg (own_blk_ne h.t h.r (by decide))
  have hl := h.l.kept hg (own_ne h.l h.t (by decide))
  have ho' : w'.ownsRow (w.heap.size + 1 + 1) 89 4 (.slice (some ⟨g, 0, none⟩) (k + 1) c) (k + 1) (tks (T ++ [x])) := by rw [tks_app, tks_one]; exact ho
  have hs := h.b.size
  have := h.e.lt
  exact ⟨by simpa using hE.set_ 0 (.slice (some ⟨g, 0, none⟩) (k + 1) c), hR.set_ne (by omega) _, own_set ho' hE (by decide) 0 _, own_set hl hE (by decide) 0 _, below_set (h.b.grown hg hs (fun j hj => by have := hge j hj; omega)) (by omega) _ _, by simp [h.n]⟩
end
set_option maxRecDepth 100000 in
set_option maxHeartbeats 2000000 in
theorem ParseExpr_some (s : ByteArray) (hs : s.size ≤ 1000) (w : World) : Calls Tryz.prog 97 #[.string s] w fun e w' => PEx w e w' := by
  have hR0 := (Blk.new w 66 #[.slice none 0 0]).alloc (.cells #[.slice none 0 0] 66)
  have hE0 := blk2 w (.cells #[.slice none 0 0] 66) 66 #[.slice none 0 0]
  obtain ⟨W0, hW0⟩ : ∃ W0, W0 = (w.alloc (.cells #[.slice none 0 0] 66)).alloc (.cells #[.slice none 0 0] 66) := ⟨_, rfl⟩
  have hb0 : Below w.heap.size w W0 := by rw [hW0]; exact below_alloc2 w _ _
  have hs0 : w.heap.size + 1 + 1 = W0.heap.size := by rw [hW0]; simp
  go_enter Tryz.func97, Tryz.ntmps97
  go_wp2_with fail
  rw [← hW0] at hR0 hE0 ⊢
  clear hW0
  refine (l2Cut_some s 32 hs _).mono ?_
  rintro e w1 ⟨A, m, c, Ls, rfl, hl, hb1, hm, hLs⟩
  have HLs := Lib.hid hLs
  have hP1 : PEl w w1 (.slice A m c) m Ls 0 [] (.slice none 0 0) w1 := ⟨hE0.below hb1 hE0.lt, hR0.below hb1 hR0.lt, World.ownsRow_nil _ _ _ _, own_mono hl (by omega), hb0.trans (hb1.mono (by omega)), rfl⟩
  clear hR0 hE0 hl hLs
  go_wp2_with fail
  go_loopw [6] (fun iv wr => ∃ (k : Nat) (T : List Tk) (va : Value), k ≤ m ∧ k ≤ 25 ∧ iv = .int .i64 k ∧ PEl w w1 (.slice A m c) m Ls k T va wr) (fun iv _ => m - (intOf iv).toNat)
  case atStart => exact ⟨0, [], _, by omega, by omega, rfl, hP1⟩
  case round =>
    clear hP1
    obtain ⟨k, T, va, hkm, hk25, rfl, hP⟩ := hrel
    obtain ⟨A6, c6, rfl⟩ := own_form hP.t
    have f0 := hP.e.cell 0
    have hws := hP.b.size
    simp at f0
    have hle := hP.e.lt
    by_cases hgo : k < m ∧ k ≤ 24
    · obtain ⟨hlt, h24⟩ := hgo
      have hki : (k : Int) < (m : Int) := by omega
      have h24i : (k : Int) ≤ 24 := by omega
      have hSl : Sl wr (fun b => True) 1 A m (strs' Ls) := Sl.of_own hP.l (fun _ _ => trivial)
      obtain ⟨b, off, t, rfl, _, hbl, hct, htm⟩ := hSl.str_at hlt
      have hts : Hid (t.size ≤ 1000) := Lib.hid (Nat.le_trans (HLs.out t htm) hs)
      have hbge : w.heap.size + 1 + 1 ≤ b := own_ge hP.l b rfl
      clear hSl htm
      go_upto_region 6 with fail
      have hS0 : (fun w' : World => w'.cell? ⟨w.heap.size + 1, 0, none⟩ = some (.slice A6 k c6) ∧ w'.cell? ⟨b, off + k, none⟩ = some (.string t)) wr.drew := ⟨f0, hct⟩
      refine wp_region_X (fun w' : World => w'.cell? ⟨w.heap.size + 1, 0, none⟩ = some (.slice A6 k c6) ∧ w'.cell? ⟨b, off + k, none⟩ = some (.string t)) 10 (by kernel_rfl) ?_
      (refine wpX_take (i := 0) (v := ?_) (by simp only [List.getElem?_toArray, List.getElem?_cons_succ, List.getElem?_cons_zero]; rfl) (by kernel_rfl) (by kernel_rfl) (by kernel_rfl) (by kernel_rfl) (by exact fun _ _ _ h => h) (Or.inl ⟨by rfl, ?_⟩) (by assumption) ?_; rotate_left; (intro w hSw; (try dsimp only at hSw); go_simp); (try with_reducible rfl); (try simp only [Act.put, List.setIfInBounds_toArray, List.set_cons_zero, List.set_cons_succ]))
      (refine wpX_take (i := 1) (v := ?_) (by simp only [List.getElem?_toArray, List.getElem?_cons_succ, List.getElem?_cons_zero]; rfl) (by kernel_rfl) (by kernel_rfl) (by kernel_rfl) (by kernel_rfl) (by exact fun _ _ _ h => h) (Or.inl ⟨by rfl, ?_⟩) (by assumption) ?_; rotate_left; (intro w hSw; (try dsimp only at hSw); go_simp); (try with_reducible rfl); (try simp only [Act.put, List.setIfInBounds_toArray, List.set_cons_zero, List.set_cons_succ]))
      (refine wpX_take (i := 2) (v := ?_) (by simp only [List.getElem?_toArray, List.getElem?_cons_succ, List.getElem?_cons_zero]; rfl) (by kernel_rfl) (by kernel_rfl) (by kernel_rfl) (by kernel_rfl) (by exact fun _ _ _ h => h) (Or.inl ⟨by rfl, ?_⟩) (by assumption) ?_; rotate_left; (intro w hSw; (try dsimp only at hSw); go_simp); (try with_reducible rfl); (try simp only [Act.put, List.setIfInBounds_toArray, List.set_cons_zero, List.set_cons_succ]))
      (refine wpX_take (i := 3) (v := ?_) (by simp only [List.getElem?_toArray, List.getElem?_cons_succ, List.getElem?_cons_zero]; rfl) (by kernel_rfl) (by kernel_rfl) (by kernel_rfl) (by kernel_rfl) (by exact fun _ _ _ h => h) (Or.inl ⟨by rfl, ?_⟩) (by assumption) ?_; rotate_left; (intro w hSw; (try dsimp only at hSw); go_simp); (try with_reducible rfl); (try simp only [Act.put, List.setIfInBounds_toArray, List.set_cons_zero, List.set_cons_succ]))
      (refine wpX_take (i := 4) (v := ?_) (by simp only [List.getElem?_toArray, List.getElem?_cons_succ, List.getElem?_cons_zero]; rfl) (by kernel_rfl) (by kernel_rfl) (by kernel_rfl) (by kernel_rfl) (by exact fun _ _ _ h => h) (Or.inl ⟨by rfl, ?_⟩) (by assumption) ?_; rotate_left; (intro w hSw; (try dsimp only at hSw); go_simp); (try with_reducible rfl); (try simp only [Act.put, List.setIfInBounds_toArray, List.set_cons_zero, List.set_cons_succ]))
      (refine wpX_take (i := 5) (v := ?_) (by simp only [List.getElem?_toArray, List.getElem?_cons_succ, List.getElem?_cons_zero]; rfl) (by kernel_rfl) (by kernel_rfl) (by kernel_rfl) (by kernel_rfl) (by exact fun _ _ _ h => h) (Or.inl ⟨by rfl, ?_⟩) (by assumption) ?_; rotate_left; (intro w hSw; (try dsimp only at hSw); go_simp); (try with_reducible rfl); (try simp only [Act.put, List.setIfInBounds_toArray, List.set_cons_zero, List.set_cons_succ]))
      refine wpX_one (i := 6) (by kernel_rfl) (by simp only [List.getElem?_toArray, List.getElem?_cons_succ, List.getElem?_cons_zero]; rfl) (fun K hK => ?_)
      go_simp
      refine (l8Read_some t hts.out _).mono ?_
      rintro e w3 ⟨tk, tl, tlo, thi, rfl, hb3⟩
      have hP3 := hP.drew.below hb3
      have ct3 : w3.cell? ⟨b, off + k, none⟩ = some (.string t) := (hb3.cell (p := ⟨b, off + k, none⟩) hbl).trans hct
      have s3 : (fun w' : World => w'.cell? ⟨w.heap.size + 1, 0, none⟩ = some (.slice A6 k c6) ∧ w'.cell? ⟨b, off + k, none⟩ = some (.string t)) w3 := ⟨hP3.e.cell 0, ct3⟩
      (refine hK.out _ _ (Or.inr s3) ?_; clear hK; (try simp only [Act.put, List.setIfInBounds_toArray, List.set_cons_zero, List.set_cons_succ]))
      refine wpX_one (i := 7) (by kernel_rfl) (by simp only [List.getElem?_toArray, List.getElem?_cons_succ, List.getElem?_cons_zero]; rfl) (fun K hK => ?_)
      go_simp
      have hP4 := hP3.below (below_alloc w3 (.cells #[.int .i64 tk, .int .i64 tl, .int .i64 tlo, .int .i64 thi] 89))
      have hbl3 : b < w3.heap.size := Nat.lt_of_lt_of_le hbl hb3.size
      have s4 : (fun w' : World => w'.cell? ⟨w.heap.size + 1, 0, none⟩ = some (.slice A6 k c6) ∧ w'.cell? ⟨b, off + k, none⟩ = some (.string t)) (w3.alloc (.cells #[.int .i64 tk, .int .i64 tl, .int .i64 tlo, .int .i64 thi] 89)) := ⟨hP4.e.cell 0, ((below_alloc w3 _).cell (p := ⟨b, off + k, none⟩) hbl3).trans ct3⟩
      (refine hK.out _ _ (Or.inr s4) ?_; clear hK; (try simp only [Act.put, List.setIfInBounds_toArray, List.set_cons_zero, List.set_cons_succ]))
      refine wpX_one (i := 8) (by kernel_rfl) (by simp only [List.getElem?_toArray, List.getElem?_cons_succ, List.getElem?_cons_zero]; rfl) (fun K hK => ?_)
      refine step_app1 elTok (by rfl) (.tmp 21) (.tmp 27) (by rfl) (w.heap.size + 1 + 1) _ k (tks T) (by rfl) hP3.t #[.int .i64 tk, .int .i64 tl, .int .i64 tlo, .int .i64 thi] _ (by rfl) (by simp) rfl (by simp [Value.oneCell']) (by omega) (by omega) (by have := hP3.e.lt; omega) ?_
      intro g6 c7 w6 ho6 hg6 hb6 _ _
      have hE6 := hP3.e.grown hg6 (own_blk_ne hP3.t hP3.e (by decide))
      have hl6 := hP3.l.kept hg6 (own_ne hP3.l hP3.t (by decide))
      have ct6 : w6.cell? ⟨b, off + k, none⟩ = some (.string t) := hg6.cell ct3 (by have := own_ne hP3.l hP3.t (by decide); simpa [Value.ownBlock] using this)
      have s6 : (fun w' : World => w'.cell? ⟨w.heap.size + 1, 0, none⟩ = some (.slice A6 k c6) ∧ w'.cell? ⟨b, off + k, none⟩ = some (.string t)) w6 := ⟨hE6.cell 0, ct6⟩
      have hP6 := hP3.push (x := ⟨tk, tl, tlo, thi⟩) ho6 hg6
      have z6 := hE6.frozen 0
      have q6 := hE6.cell 0
      have l6 := hE6.lt
      simp at q6
      (refine hK.out _ _ (Or.inr s6) ?_; clear hK; (try simp only [Act.put, List.setIfInBounds_toArray, List.set_cons_zero, List.set_cons_succ]))
      (refine wpX_take (i := 9) (v := ?_) (by simp only [List.getElem?_toArray, List.getElem?_cons_succ, List.getElem?_cons_zero]; rfl) (by kernel_rfl) (by kernel_rfl) (by kernel_rfl) (by kernel_rfl) (by exact fun _ _ _ h => h) (Or.inl ⟨by rfl, ?_⟩) (by assumption) ?_; rotate_left; (intro w hSw; (try dsimp only at hSw); go_simp); (try with_reducible rfl); (try simp only [Act.put, List.setIfInBounds_toArray, List.set_cons_zero, List.set_cons_succ]))
      refine wpX_one (i := 10) (by kernel_rfl) (by simp only [List.getElem?_toArray, List.getElem?_cons_succ, List.getElem?_cons_zero]; rfl) (fun K hK => ?_)
      go_simp
      (refine hK.out _ _ (Or.inl rfl) ?_; clear hK; (try simp only [Act.put, List.setIfInBounds_toArray, List.set_cons_zero, List.set_cons_succ]))
      refine wpX_done (by kernel_rfl) ?_ _
      go_wp2_with fail
      go_roundw
      case rel => exact ⟨k + 1, _, _, by omega, by omega, by go_num, hP6⟩
      case measure => simp [intOf]; omega
    · obtain rfl : k = T.length := hP.n.symm
      have hT25 : T.length ≤ 25 := hk25
      have hTk : Tks wr (fun _ => True) A6 T := Sl.of_own hP.t (fun _ _ => trivial)
      by_cases hlt : T.length < m
      · have hki : (T.length : Int) < (m : Int) := by omega
        have h24i : ¬ (T.length : Int) ≤ 24 := by omega
        go_wp2_with fail
        refine (IsValidExpr_any T A6 c6 (fun _ => True) _ hTk).mono ?_
        rintro e w3 ⟨rfl, hb3⟩
        have hP3 := hP.below hb3
        obtain ⟨B, HB⟩ : ∃ B, (decide (T.length ≤ 24) && isExB T) = B := ⟨_, rfl⟩
        rw [HB]
        clear HB hTk
        have f3 := hP3.e.cell 0; have r3 := hP3.r.cell 0
        simp at f3 r3
        have z3 := hP3.r.frozen 0
        have l3 := hP3.r.lt
        cases B with
        | true =>
          go_wp2_with fail
          refine bodyPost_ret (v := .tuple #[.agg #[.slice A6 T.length c6], .bool true]) (by simp [results, Tryz.results97, go_sem, r3]) rfl ?_
          exact ⟨_, _, T, rfl, ⟨_, rfl, own_mono (own_set hP3.t hP3.r (by decide) 0 _) (by omega)⟩, below_set hP3.b (Nat.le_refl _) _ _, hT25⟩
        | false =>
          go_wp2_with fail
          refine bodyPost_ret (v := .tuple #[.agg #[.slice none 0 0], .bool false]) (by simp [results, Tryz.results97, go_sem, r3]) rfl ?_
          exact ⟨_, _, [], rfl, ExO.none_ _ _, below_set hP3.b (Nat.le_refl _) _ _, by simp⟩
      · have hki : ¬ (T.length : Int) < (m : Int) := by omega
        go_wp2_with fail
        refine (IsValidExpr_any T A6 c6 (fun _ => True) _ hTk).mono ?_
        rintro e w3 ⟨rfl, hb3⟩
        have hP3 := hP.below hb3
        obtain ⟨B, HB⟩ : ∃ B, (decide (T.length ≤ 24) && isExB T) = B := ⟨_, rfl⟩
        rw [HB]
        clear HB hTk
        have f3 := hP3.e.cell 0; have r3 := hP3.r.cell 0
        simp at f3 r3
        have z3 := hP3.r.frozen 0
        have l3 := hP3.r.lt
        cases B with
        | true =>
          go_wp2_with fail
          refine bodyPost_ret (v := .tuple #[.agg #[.slice A6 T.length c6], .bool true]) (by simp [results, Tryz.results97, go_sem, r3]) rfl ?_
          exact ⟨_, _, T, rfl, ⟨_, rfl, own_mono (own_set hP3.t hP3.r (by decide) 0 _) (by omega)⟩, below_set hP3.b (Nat.le_refl _) _ _, hT25⟩
        | false =>
          go_wp2_with fail
          refine bodyPost_ret (v := .tuple #[.agg #[.slice none 0 0], .bool false]) (by simp [results, Tryz.results97, go_sem, r3]) rfl ?_
          exact ⟨_, _, [], rfl, ExO.none_ _ _, below_set hP3.b (Nat.le_refl _) _ _, by simp⟩
end Go.Proofs.YtmnhpbbapkcdjaaGreat

/- Walks: drawing a word. -/
namespace Go.Proofs.YtmnhpbbapkcdjaaGreat
open Go.RowKit

theorem Cur.grown {w w' : World} {p : Nat → Prop} {g : Nat} {r : Option Nat} (h : Cur w p g) (hg : w.grownBy w' r) (h1 : r ≠ some g) (h2 : ∀ b, r = some b → ¬ p b) : Cur w' p g := by
  obtain ⟨A, n, cap, i, hh, xs, hB, hS, hi⟩ := h
  exact ⟨A, n, cap, i, hh, xs, hB.grown hg (Ne.symm h1), hS.keep hg.size (fun b hb hl => hg.block b hl (fun e => h2 b e.symm hb)), hi⟩
/-- drawn from, and blocks of the call's own have grown -/
theorem Drawn.grown {w w1 w2 : World} {p : Nat → Prop} {g : Nat} {r : Option Nat} (h : Drawn w w1 p g) (hg : w1.grownBy w2 r) (hw : g < w.heap.size) (hp : ∀ b, p b → b < g) (hr : ∀ b, r = some b → w.heap.size ≤ b) : Drawn w w2 p g := by
  have hs := h.1.size
  refine ⟨⟨hg.os.trans h.1.os, hg.tape.trans h.1.tape, hg.output.trans h.1.output, Nat.le_trans h.1.size hg.size, fun k hk hne => ?_⟩, h.2.grown hg ?_ ?_⟩
  · rw [hg.block k (by omega) (fun e => by have := hr k e.symm; omega)]
    exact h.1.block k hk hne
  · intro e; have := hr g e; omega
  · intro b e hb; have := hr b e; have := hp b hb; omega

/-- some word, in memory of the call's own -/
def SomeWord (w w' : World) (p : Nat → Prop) (g : Nat) (e : Ending) : Prop := ∃ A n c xs, e = .returned (.slice A n c) ∧ Sl w' (w.heap.size ≤ ·) 1 A n (ints xs) ∧ Drawn w w' p g
set_option maxRecDepth 100000 in
theorem l11Word_any (g : Nat) (p : Nat → Prop) (w : World) (h : Cur w p g) (hp : ∀ b, p b → b < g) (hg : g < w.heap.size) :
    Calls Tryz.prog 33 #[.pointer (some ⟨g, 0, none⟩)] w fun e w' => SomeWord w w' p g e := by
  have hpn : ∀ b, p b → b ≠ g := fun b hb e => by have := hp b hb; omega
  go_enter Tryz.func33, Tryz.ntmps33
  go_wp2_with fail
  refine (l1Below_any g 6 p _ (h.keep (below_alloc w _)) hpn (by omega) (by omega)).mono ?_
  rintro e w1 ⟨r, rfl, hr, hd⟩
  have hd0 : Drawn w w1 p g := (Drawn.of h (below_alloc w _)).trans hd
  have hI0 : w1.ownsRow w.heap.size 3 1 (.slice (some ⟨w.heap.size, 0, none⟩) 0 0) 0 (ints []) := (own0 (w := w) (e := 3) (size := 1) rfl (Nat.le_refl _)).kept hd.1 (.inr (by simp [Value.ownBlock]; omega))
  clear hd h
  go_wp2_with fail
  go_loopw [3, 4] (fun v3 v4 wr => ∃ (k m gx c : Nat) (xs : List Int), k ≤ 5 ∧ m ≤ 5 ∧ k + m ≤ 5 ∧ v4 = .int .i64 k ∧ v3 = .slice (some ⟨gx, 0, none⟩) m c ∧ wr.ownsRow w.heap.size 3 1 v3 m (ints xs) ∧ Drawn w wr p g) (fun _ v _ => (intOf v).toNat)
  case atStart => exact ⟨r, 0, _, _, [], by omega, by omega, by omega, rfl, rfl, hI0, hd0⟩
  case round =>
    clear hI0 hd0
    obtain ⟨k, m, gx, c, xs, hk, hm, hkm, rfl, rfl, hI, hd⟩ := hrel
    have hgw := Nat.lt_of_lt_of_le hg hd.1.size
    by_cases hk0 : 0 < k
    · have hki : (0 : Int) < (k : Int) := by omega
      have hws := hd.1.size
      go_wp2_with (first
        | (go_at_call 65; refine (l2Draw_any g p wr hd.2 hpn hgw).mono ?_; rintro e w2 ⟨x, rfl, hd2⟩; have hI2 := hI.kept hd2.1 (.inr (by intro e; have := own_ge hI g e; omega)); have hd3 := hd.trans hd2; have hs2 := hd3.1.size)
        | (at_builtin; refine wpList_app1 elInt rfl (.tmp 12) (.tmp 15) rfl w.heap.size _ m _ rfl hI2 #[.int .i64 x] _ rfl (by simp) rfl (by simp [Value.oneCell']) (by omega) (by omega) hs2 ?_; intro g4 c4 w4 ho4 hg4 _ _ _; have hd4 := hd3.grown hg4 hg hp (own_ge hI2)))
      go_roundw
      case rel => exact ⟨k - 1, m + 1, g4, c4, xs ++ [x], by omega, by omega, by omega, by congr 1; omega, rfl, by rw [← ints_snoc]; exact ho4, hd4⟩
      case measure => simp [intOf]; omega
    · have hki : ¬ (0 : Int) < (k : Int) := by omega
      go_wp2
      go_ret
      exact ⟨some ⟨gx, 0, none⟩, m, c, xs, rfl, Sl.of_own hI (own_ge hI), hd⟩
end Go.Proofs.YtmnhpbbapkcdjaaGreat

/- An automaton that is being drawn: what its loops keep in memory. -/
namespace Go.Proofs.YtmnhpbbapkcdjaaGreat
open Go.RowKit

structure Rnd (w0 : World) (p : Nat → Prop) (g base : Nat) (acc : List Bool) (L fin : List (Value × List Int)) (va vn : Value) (go : Nat) (st : Int) (wr : World) : Prop where
  acc : wr.ownsRow base 4 1 va acc.length (bools acc)
  next : wr.ownsRow base 24 1 vn fin.length (fin.map Prod.fst)
  rows : IRows wr base (L ++ fin)
  out : Blk wr go 31 #[.int .i64 st, va, vn]
  hgo : base ≤ go
  dr : Drawn w0 wr p g
  hg : g < w0.heap.size
  hb : w0.heap.size ≤ base
  hp : ∀ b, p b → b < g
section
variable {w0 wr w' : World} {p : Nat → Prop} {g base go : Nat} {acc : List Bool} {L fin : List (Value × List Int)} {va vn v : Value} {st : Int} {xs : List Int}
theorem IRows.drawn (h : IRows wr base L) (hg : wr.grownBy w' (some g)) (hgb : g < base) : IRows w' base L := h.keep hg fun q hq e => by
  have := own_ge (h.own q hq).1 g e; omega
theorem own_drawn {size n : Nat} {e : TypeId} {ys : List Value} (h : wr.ownsRow base e size v n ys) (hg : wr.grownBy w' (some g)) (hgb : g < base) : w'.ownsRow base e size v n ys :=
  h.kept hg (.inr (fun e => by have := own_ge h g e; omega))
theorem Rnd.drawn (h : Rnd w0 p g base acc L fin va vn go st wr) (hd : Drawn wr w' p g) : Rnd w0 p g base acc L fin va vn go st w' := by
  have hgb : g < base := Nat.lt_of_lt_of_le h.hg h.hb
  exact ⟨own_drawn h.acc hd.1 hgb, own_drawn h.next hd.1 hgb, h.rows.drawn hd.1 hgb, h.out.grown hd.1 (by have := h.hgo; simp; omega), h.hgo, h.dr.trans hd, h.hg, h.hb, h.hp⟩
theorem Rnd.bel (h : Rnd w0 p g base acc L fin va vn go st wr) (hb : Below wr.heap.size wr w') : Rnd w0 p g base acc L fin va vn go st w' := h.drawn (Drawn.of h.dr.2 hb)
theorem Rnd.new {gx : Nat} (h : Rnd w0 p g base acc L fin va vn go st wr) (hg : gx = wr.heap.size) (hbs : base ≤ wr.heap.size) : Rnd w0 p g base acc ((.slice (some ⟨gx, 0, none⟩) 0 0, []) :: L) fin va vn go st (wr.alloc (.cells #[] 3)) := by
  have h2 := h.bel (below_alloc wr (.cells #[] 3))
  exact ⟨h2.acc, h2.next, IRows.new h.rows hg (by omega), h2.out, h2.hgo, h2.dr, h2.hg, h2.hb, h2.hp⟩
theorem Rnd.app {u : Int} {n gx cap : Nat} (h : Rnd w0 p g base acc ((v, xs) :: L) fin va vn go st wr) (hn : n = xs.length) (ho : w'.ownsRow base 3 1 (.slice (some ⟨gx, 0, none⟩) (n + 1) cap) (n + 1) (ints xs ++ [.int .i64 u])) (hg : wr.grownBy w' v.ownBlock)
    (hb : v.ownBlock = some gx ∨ wr.heap.size < gx) : Rnd w0 p g base acc ((.slice (some ⟨gx, 0, none⟩) (n + 1) cap, xs ++ [u]) :: L) fin va vn go st w' := by
  have hv := IRows.head (L := L ++ fin) h.rows
  exact ⟨h.acc.kept hg (own_ne h.acc hv (by decide)), h.next.kept hg (own_ne h.next hv (by decide)), IRows.appList (L := L ++ fin) h.rows hn ho hg hb, h.out.grown hg (own_blk_ne hv h.out (by decide)), h.hgo,
    h.dr.grown hg h.hg h.hp (fun b hb2 => Nat.le_trans h.hb (own_ge hv b hb2)), h.hg, h.hb, h.hp⟩
theorem Rnd.putAcc {va' : Value} {b : Bool} (h : Rnd w0 p g base acc L fin va vn go st wr) (ho : w'.ownsRow base 4 1 va' (acc ++ [b]).length (bools (acc ++ [b]))) (hg : wr.grownBy w' va.ownBlock) :
    Rnd w0 p g base (acc ++ [b]) L fin va' vn go st (w'.setCell ⟨go, 1, none⟩ va') := by
  have ho1 : Blk w' go 31 #[.int .i64 st, va, vn] := h.out.grown hg (own_blk_ne h.acc h.out (by decide))
  have hn1 := h.next.kept hg (own_ne h.next h.acc (by decide))
  have hr1 := h.rows.far h.acc hg (by decide)
  have hd1 := h.dr.grown hg h.hg h.hp (fun b hb2 => Nat.le_trans h.hb (own_ge h.acc b hb2))
  have hs : w'.grownBy (w'.setCell ⟨go, 1, none⟩ va') (some go) := ⟨rfl, rfl, rfl, by simp, fun k hk hne => Below.heap_setCell w' _ _ k (fun e => hne (by rw [e]))⟩
  refine ⟨ho.kept hs (.inr (own_blk_ne ho ho1 (by decide)).symm), hn1.kept hs (.inr (own_blk_ne hn1 ho1 (by decide)).symm), hr1.farBlk ho1 hs (by decide), ?_, h.hgo, hd1.grown hs h.hg h.hp (fun b hb => by injection hb with hb; have := h.hgo; have := h.hb; omega), h.hg, h.hb, h.hp⟩
  have := ho1.set_ 1 va'
  simpa using this
theorem Rnd.putNext {vn' : Value} (h : Rnd w0 p g base acc ((v, xs) :: L) fin va vn go st wr) (ho : w'.ownsRow base 24 1 vn' (fin.length + 1) (fin.map Prod.fst ++ [v])) (hg : wr.grownBy w' vn.ownBlock) :
    Rnd w0 p g base acc L (fin ++ [(v, xs)]) va vn' go st (w'.setCell ⟨go, 2, none⟩ vn') := by
  have ho1 : Blk w' go 31 #[.int .i64 st, va, vn] := h.out.grown hg (own_blk_ne h.next h.out (by decide))
  have hn1 := h.acc.kept hg (own_ne h.acc h.next (by decide))
  have hr1 := h.rows.far h.next hg (by decide)
  have hd1 := h.dr.grown hg h.hg h.hp (fun b hb2 => Nat.le_trans h.hb (own_ge h.next b hb2))
  have hs : w'.grownBy (w'.setCell ⟨go, 2, none⟩ vn') (some go) := ⟨rfl, rfl, rfl, by simp, fun k hk hne => Below.heap_setCell w' _ _ k (fun e => hne (by rw [e]))⟩
  refine ⟨hn1.kept hs (.inr (own_blk_ne hn1 ho1 (by decide)).symm), by simpa using ho.kept hs (.inr (own_blk_ne ho ho1 (by decide)).symm), (hr1.farBlk ho1 hs (by decide)).perm ?_, ?_, h.hgo, hd1.grown hs h.hg h.hp (fun b hb => by injection hb with hb; have := h.hgo; have := h.hb; omega), h.hg, h.hb, h.hp⟩
  · show ((v, xs) :: (L ++ fin)).Perm (L ++ (fin ++ [(v, xs)]))
    rw [← List.append_assoc]
    exact (List.perm_append_singleton _ _).symm
  · have := ho1.set_ 2 vn'
    simpa using this
end
end Go.Proofs.YtmnhpbbapkcdjaaGreat
