/- Walks: l11Aut; Walks: l11Any. No condition. -/
import Derived.Test.YtmnhpbbapkcdjaaGreatA21

/- Walks: l11Aut. -/
namespace Go.Proofs.YtmnhpbbapkcdjaaGreat
open Go.RowKit

theorem numRun_pre {nx : Int → Nat → Option Int} {ac : Int → Bool} {most : Nat} : ∀ (f i : Nat) (ls : List Int) (acc : List Bool) (nxs : List (List Int)) (r : List Bool × List (List Int)), numRun nx ac most f i ls acc nxs = some r → ∃ ex, r.2 = nxs ++ ex
  | 0, i, ls, acc, nxs, r, h => by simp [numRun] at h
  | f + 1, i, ls, acc, nxs, r, h => by
    unfold numRun at h
    split at h
    · split at h
      · cases h
      · obtain ⟨ex, he⟩ := numRun_pre f _ _ _ _ r h
        exact ⟨_, by rw [he, List.append_assoc]⟩
    · simp at h
      exact ⟨[], by rw [← h]; simp⟩
theorem numRun_acc {nx : Int → Nat → Option Int} {ac : Int → Bool} {most : Nat} : ∀ (f i : Nat) (ls : List Int) (acc : List Bool) (nxs : List (List Int)) (r : List Bool × List (List Int)), numRun nx ac most f i ls acc nxs = some r → r.1.length ≤ acc.length + f
  | 0, i, ls, acc, nxs, r, h => by simp [numRun] at h
  | f + 1, i, ls, acc, nxs, r, h => by
    unfold numRun at h
    split at h
    · split at h
      · cases h
      · have := numRun_acc f _ _ _ _ r h
        simp at this; omega
    · simp at h
      rw [← h]; simp
theorem numbR_row0 {nx : Int → Nat → Option Int} {ac : Int → Bool} {most : Nat} {first : Int} {r : List Bool × List (List Int)} (h : numbR nx ac most first = some r) (hm : most ≤ 900) : Row0 (resAut (some r)) := by
  refine ⟨?_, by have := numRun_acc _ _ _ _ _ _ h; show r.1.length ≤ 1000; simp at this; omega⟩
  unfold numbR numRun at h
  rw [if_pos (by simp)] at h
  split at h
  · cases h
  · obtain ⟨ex, he⟩ := numRun_pre _ _ _ _ _ _ h
    exact ⟨_, ex, he, (upto_row_len 9).1⟩
section
variable {w wk : World} {p : Nat → Prop} {g base : Nat} {v : Value} {a : Aut} {cs : Array Value} {st : Int} {va vn : Value}
theorem Drawn.set3 {v0 v1 v2 : Value} {R : Nat} (hD : Drawn w wk p g) (hg : g < w.heap.size) (hp : ∀ b, p b → b < g) (hR : w.heap.size ≤ R) :
    Drawn w (((wk.setCell ⟨R, 0, none⟩ v0).setCell ⟨R, 1, none⟩ v1).setCell ⟨R, 2, none⟩ v2) p g := by
  have hr : ∀ b, some R = some b → w.heap.size ≤ b := fun b e => by injection e with e; omega
  exact ((hD.grown (grown_set _ _ _ _) hg hp hr).grown (grown_set _ _ _ _) hg hp hr).grown (grown_set _ _ _ _) hg hp hr
theorem AutO.set3 {R : Nat} {v0 v1 v2 : Value} (h : AutO wk base v a) (hR : R < base) : AutO (((wk.setCell ⟨R, 0, none⟩ v0).setCell ⟨R, 1, none⟩ v1).setCell ⟨R, 2, none⟩ v2) base v a := by
  have hr : ∀ b, some R = some b → b < base := fun b e => by injection e with e; omega
  exact ((h.keep (grown_set _ _ _ _) hr).keep (grown_set _ _ _ _) hr).keep (grown_set _ _ _ _) hr
theorem AutO.drawn {w' : World} (h : AutO w base v a) (hd : Drawn w w' p g) (hg : g < base) : AutO w' base v a := h.keep hd.1 (fun b e => by injection e with e; omega)
theorem AutO.below {w' : World} (h : AutO w base v a) (hb : Below w.heap.size w w') (hbs : base ≤ w.heap.size) : AutO w' base v a := by
  obtain ⟨va, vn, fin, rfl, h1, h2, h3, hn⟩ := h
  exact ⟨va, vn, fin, rfl, own_below h1 hb, own_below h2 hb, h3.below hb, hn⟩
theorem AutO.form (h : AutO w base v a) : ∃ A1 n1 c1 A2 n2 c2, v = .agg #[.int .i64 a.start, .slice A1 n1 c1, .slice A2 n2 c2] := by
  obtain ⟨va, vn, fin, rfl, h1, h2, _⟩ := h
  obtain ⟨A1, c1, rfl⟩ := own_form h1
  obtain ⟨A2, c2, rfl⟩ := own_form h2
  exact ⟨_, _, _, _, _, _, rfl⟩
end
def rpost (v : Value) : Value := v
set_option maxRecDepth 100000 in
set_option maxHeartbeats 2000000 in
theorem l11Aut_any (g : Nat) (p : Nat → Prop) (w : World) (h : Cur w p g) (hp : ∀ b, p b → b < g) (hg : g < w.heap.size) :
    Calls Tryz.prog 64 #[.pointer (some ⟨g, 0, none⟩)] w fun e w' => SomeAut w w' p g e := by
  have hpn : ∀ b, p b → b ≠ g := fun b hb e => by have := hp b hb; omega
  have hR := Blk.new w 31 #[.int .i64 0, .slice none 0 0, .slice none 0 0]
  go_enter Tryz.func64, Tryz.ntmps64
  go_wp2_with fail
  refine (l1Once_any g 3 p _ (h.keep (below_alloc w _)) hpn (by omega) (by omega)).mono ?_
  rintro e w1 ⟨r, rfl, hdr⟩
  have hd1 : Drawn w w1 p g := (Drawn.of h (below_alloc w (.cells #[.int .i64 0, .slice none 0 0, .slice none 0 0] 31))).trans hdr
  have hR1 := hR.drawn hdr (by omega)
  have hs1 := hd1.1.size
  have hl1 := hR1.lt
  have hg1 : g < w1.heap.size := by omega
  cases r with
  | true =>
    go_wp2_with fail
    refine (l11Random_any g p _ hd1.2 hp hg1).mono ?_
    rintro e w2 ⟨v2, a, rfl, hA, hd2, hrow⟩
    have hR2 := hR1.drawn hd2 (by omega)
    have hd12 := hd1.trans hd2
    have HROW := Lib.hid hrow
    clear hrow
    obtain ⟨A1, n1, c1, A2, n2, c2, rfl⟩ := hA.form
    have z0 := hR2.frozen 0; have z1 := hR2.frozen 1; have z2 := hR2.frozen 2
    have r0 := hR2.cell 0; have r1 := hR2.cell 1; have r2 := hR2.cell 2
    have l2 := hR2.lt
    simp at r0 r1 r2
    have T := hR2.set3 (x' := .int .i64 a.start) (y' := .slice A1 n1 c1) (z' := .slice A2 n2 c2)
    have t0 := T.cell 0; have t1 := T.cell 1; have t2 := T.cell 2
    simp at t0 t1 t2
    go_wp2_with fail
    refine bodyPost_ret (v := .agg #[.int .i64 a.start, .slice A1 n1 c1, .slice A2 n2 c2]) (by simp [results, Tryz.results64, go_sem, t0, t1, t2]) rfl ?_
    exact ⟨_, a, rfl, (hA.set3 hl1).mono hs1, hd12.set3 hg hp (Nat.le_refl _), HROW.out⟩
  | false =>
    go_wp2_with fail
    refine (l8Expr_any g p _ hd1.2 hp hg1).mono ?_
    rintro e w2 ⟨v2, L, rfl, hO, hd2, hl⟩
    have hR2 := hR1.drawn hd2 (by omega)
    have hd12 := hd1.trans hd2
    obtain ⟨A1, c1, rfl, _⟩ := id hO.form
    go_wp2_with fail
    refine (BuildPositions_any L _ _ _ hO.exc).mono ?_
    rintro e w3 ⟨v3, ok, a, rfl, hPO, hb3, hfl, hn20⟩
    have hR3 := hR2.below hb3 hR2.lt
    have hd13 := hd12.bel hb3
    have HFL := Lib.hid (And.intro hfl hn20)
    clear hfl hn20
    obtain ⟨va, vf, rfl, ha, hf, hap⟩ := id hPO
    obtain ⟨A5, c5, rfl⟩ := own_form ha
    obtain ⟨A6, c6, rfl⟩ := own_form hf
    clear ha hf hap
    obtain ⟨O4, hO4⟩ : ∃ O4, O4 = Obj.cells #[.slice A5 a.n c5, .int .i64 a.first, .int .i64 a.last, .slice A6 a.follow.length c6, .bool a.nullable] 26 := ⟨_, rfl⟩
    have hP4 := hPO.below (below_alloc w3 O4)
    have hR4 := hR3.alloc O4
    have hd4 := hd13.bel (below_alloc w3 O4)
    have hl3 := hR3.lt
    obtain ⟨W4, hW4⟩ : ∃ W4, W4 = w3.alloc O4 := ⟨_, rfl⟩
    rw [← hW4] at hP4 hR4 hd4
    rw [hO4] at hW4
    clear hO4
    go_wp2_with fail
    rw [← hW4]
    refine (l11Subsets_own a _ 12 _ _ hP4.posV HFL.out.1 HFL.out.2 (by omega)).mono ?_
    rintro e w5 ⟨v5, rfl, hA5, hb5⟩
    have hR5 := hR4.below hb5 hR4.lt
    have hd5 := hd4.bel hb5
    have hs4 := hd4.1.size
    have hlR4 := hR4.lt
    obtain ⟨rr, HR⟩ : ∃ rr, Hid (numbR (subNx a) (accI a) 12 1 = rr) := ⟨_, Lib.hid rfl⟩
    rw [HR.out] at hA5 ⊢
    obtain ⟨B1, n1, d1, B2, n2, d2, rfl⟩ := hA5.form
    obtain ⟨O6, hO6⟩ : ∃ O6, O6 = Obj.cells #[.int .i64 (resAut rr).start, .slice B1 n1 d1, .slice B2 n2 d2] 31 := ⟨_, rfl⟩
    have hA6 := hA5.below (below_alloc w5 O6) hb5.size
    have hd6 := hd5.bel (below_alloc w5 O6)
    have hl5 := hR5.lt
    have hR6 := hR5.alloc O6
    cases rr with
    | some q =>
      have HROW := Lib.hid (numbR_row0 HR.out (by omega))
      have T := (hR5.set3 (x' := .int .i64 (resAut (some q)).start) (y' := .slice B1 n1 d1) (z' := .slice B2 n2 d2))
      have T2 := T.alloc O6
      have t0 := T2.cell 0; have t1 := T2.cell 1; have t2 := T2.cell 2
      rw [hO6] at t0 t1 t2
      simp at t0 t1 t2
      have z0 := hR5.frozen 0; have z1 := hR5.frozen 1; have z2 := hR5.frozen 2
      have r0 := hR5.cell 0; have r1 := hR5.cell 1; have r2 := hR5.cell 2
      simp at r0 r1 r2
      clear hW4 hP4 hPO
      go_wp2_with fail
      refine bodyPost_ret (v := .agg #[.int .i64 (resAut (some q)).start, .slice B1 n1 d1, .slice B2 n2 d2]) (by simp [results, Tryz.results64, go_sem, t0, t1, t2]) rfl ?_
      have hs5 := hb5.size
      refine ⟨_, resAut (some q), rfl, AutO.mono (base := W4.heap.size) ?_ (by omega), ?_, HROW.out⟩
      · exact (hA5.set3 hlR4).below (below_alloc _ _) (by simp; omega)
      · exact (hd5.set3 hg hp (Nat.le_refl _)).bel (below_alloc _ _)
    | none =>
      have hg6 : g < (w5.alloc O6).heap.size := by have := hb5.size; simp; omega
      rw [hO6] at hd6 hR6 hg6
      clear hW4 hP4 hPO
      go_wp2_with fail
      refine (l11Random_any g p _ hd6.2 hp hg6).mono ?_
      rintro e w7 ⟨v7, a7, rfl, hA7, hd7, hrow⟩
      have hR7 := hR6.drawn hd7 (by omega)
      have hd17 := hd6.trans hd7
      have HROW := Lib.hid hrow
      clear hrow
      obtain ⟨E1, m1, e1, E2, m2, e2, rfl⟩ := hA7.form
      have z0 := hR7.frozen 0; have z1 := hR7.frozen 1; have z2 := hR7.frozen 2
      have r0 := hR7.cell 0; have r1 := hR7.cell 1; have r2 := hR7.cell 2
      have l2 := hR7.lt
      simp at r0 r1 r2
      have T := hR7.set3 (x' := .int .i64 a7.start) (y' := .slice E1 m1 e1) (z' := .slice E2 m2 e2)
      have t0 := T.cell 0; have t1 := T.cell 1; have t2 := T.cell 2
      simp at t0 t1 t2
      go_wp2_with fail
      refine bodyPost_ret (v := .agg #[.int .i64 a7.start, .slice E1 m1 e1, .slice E2 m2 e2]) (by simp [results, Tryz.results64, go_sem, t0, t1, t2]) rfl ?_
      exact ⟨_, a7, rfl, (hA7.set3 (by simp; omega)).mono (by simp; omega), hd17.set3 hg hp (Nat.le_refl _), HROW.out⟩
end Go.Proofs.YtmnhpbbapkcdjaaGreat

/- Walks: l11Any. -/
namespace Go.Proofs.YtmnhpbbapkcdjaaGreat
open Go.RowKit

def SomeAny (w w' : World) (p : Nat → Prop) (g : Nat) (e : Ending) : Prop := ∃ v a, e = .returned v ∧ AutO w' w.heap.size v a ∧ Drawn w w' p g
theorem own_shrink {w : World} {base g n cap k : Nat} {e : TypeId} {xs : List Value} (h : w.ownsRow base e 1 (.slice (some ⟨g, 0, none⟩) n cap) n xs) (hk : k ≤ n) : w.ownsRow base e 1 (.slice (some ⟨g, 0, none⟩) k cap) k (xs.take k) := by
  obtain ⟨h1, h2⟩ := h
  refine ⟨by simp; omega, ?_⟩
  rcases h2 with ⟨h2, _⟩ | ⟨g', cap', cur, hv, hb, hh, hn, hm, hs, ht⟩
  · cases h2
  · injection hv with hv1 hv2 hv3
    injection hv1 with hv1
    injection hv1 with hv1
    subst hv1 hv3
    exact .inr ⟨g, cap, cur, rfl, hb, hh, by omega, hm, hs, by rw [← ht, List.take_take]; simp; omega⟩
section
variable {w wk : World} {p : Nat → Prop} {g base : Nat} {st : Int} {va vn : Value} {a : Aut} {cs : Array Value}
theorem SomeAny.fin {A1 A2 : Option Addr} {n1 n2 c1 c2 : Nat} (hD : Drawn w wk p g) (hg : g < w.heap.size) (hp : ∀ b, p b → b < g) (hA : AutO wk base (.agg #[.int .i64 st, .slice A1 n1 c1, .slice A2 n2 c2]) a) (hb : w.heap.size < base) :
    SomeAny w (((wk.setCell ⟨w.heap.size, 0, none⟩ (.int .i64 st)).setCell ⟨w.heap.size, 1, none⟩ (.slice A1 n1 c1)).setCell ⟨w.heap.size, 2, none⟩ (.slice A2 n2 c2)) p g (.returned (.agg #[.int .i64 st, .slice A1 n1 c1, .slice A2 n2 c2])) :=
  ⟨_, a, rfl, (hA.set3 hb).mono (by omega), hD.set3 hg hp (Nat.le_refl _)⟩
end
/-- what l11Any holds of the automaton: its parts -/
structure AP (w : World) (base : Nat) (acc : List Bool) (q : Value × List Int) (fl : List (Value × List Int)) (va vn : Value) : Prop where
  a : w.ownsRow base 4 1 va acc.length (bools acc)
  n : w.ownsRow base 24 1 vn (fl.length + 1) (q.1 :: fl.map Prod.fst)
  r : IRows w base (q :: fl)
section
variable {w w' : World} {p : Nat → Prop} {g base : Nat} {acc : List Bool} {q : Value × List Int} {fl : List (Value × List Int)} {va vn : Value} {st : Int}
theorem AP.aut (h : AP w base acc q fl va vn) : AutO w base (.agg #[.int .i64 st, va, vn]) ⟨st, acc, (q :: fl).map Prod.snd⟩ :=
  ⟨va, vn, q :: fl, rfl, h.a, h.n, h.r, rfl⟩
theorem AP.drawn (h : AP w base acc q fl va vn) (hd : Drawn w w' p g) (hg : g < base) : AP w' base acc q fl va vn :=
  ⟨own_drawn h.a hd.1 hg, own_drawn h.n hd.1 hg, h.r.drawn hd.1 hg⟩
theorem AP.below (h : AP w base acc q fl va vn) (hb : Below w.heap.size w w') : AP w' base acc q fl va vn :=
  ⟨own_below h.a hb, own_below h.n hb, h.r.below hb⟩
theorem AP.blk {R i : Nat} {u : Value} {cs : Array Value} (h : AP w base acc q fl va vn) (hB : Blk w R 31 cs) : AP (w.setCell ⟨R, i, none⟩ u) base acc q fl va vn :=
  ⟨own_set h.a hB (by decide) i u, own_set h.n hB (by decide) i u, h.r.farBlk hB (grown_set _ _ _ _) (by decide)⟩
end
set_option maxRecDepth 100000 in
set_option maxHeartbeats 4000000 in
theorem l11Any_any (g : Nat) (p : Nat → Prop) (w : World) (h : Cur w p g) (hp : ∀ b, p b → b < g) (hg : g < w.heap.size) :
    Calls Tryz.prog 32 #[.pointer (some ⟨g, 0, none⟩)] w fun e w' => SomeAny w w' p g e := by
  have hpn : ∀ b, p b → b ≠ g := fun b hb e => by have := hp b hb; omega
  have hR := Blk.new w 31 #[.int .i64 0, .slice none 0 0, .slice none 0 0]
  go_enter Tryz.func32, Tryz.ntmps32
  go_wp2_with fail
  refine (l11Aut_any g p _ (h.keep (below_alloc w _)) hp (by simp; omega)).mono ?_
  rintro e w1 ⟨v1, a, rfl, hA, hdr, hrow⟩
  have hd1 : Drawn w w1 p g := (Drawn.of h (below_alloc w (.cells #[.int .i64 0, .slice none 0 0, .slice none 0 0] 31))).trans hdr
  have hR1 := hR.drawn hdr (by omega)
  have hs1 := hd1.1.size
  have hl1 := hR1.lt
  obtain ⟨va, vn, fin, rfl, hva, hvn, hrs, hnx⟩ := hA
  obtain ⟨⟨r0, rl, hr0, hr9⟩, hac⟩ := hrow
  obtain ⟨q, fl, rfl⟩ : ∃ q fl, fin = q :: fl := by
    cases fin with
    | nil => rw [hnx] at hr0; simp at hr0
    | cons q fl => exact ⟨q, fl, rfl⟩
  have hq9 : q.2.length = 9 := by rw [hnx] at hr0; simp at hr0; rw [hr0.1]; exact hr9
  have hP : AP w1 (w.heap.size + 1) a.acc q fl va vn := by
    have : (w.alloc (.cells #[.int .i64 0, .slice none 0 0, .slice none 0 0] 31)).heap.size = w.heap.size + 1 := by simp
    rw [this] at hva hvn hrs
    exact ⟨hva, hvn, hrs⟩
  obtain ⟨q1, q2⟩ := q
  simp only at hq9
  have HQ9 := Lib.hid hq9
  obtain ⟨b0, c0, hq1, _, _⟩ := (IRows.head hP.r).form (by show 0 < q2.length; omega)
  rw [hq9] at hq1
  subst hq1
  clear hr0 hr9 hnx hva hvn hrs hq9
  generalize a.start = st at *
  generalize a.acc = acc at *
  obtain ⟨A1, c1, rfl⟩ := own_form hP.a
  obtain ⟨gn, c2, rfl, _, _⟩ := hP.n.form (by omega)
  have hX := Blk.new w1 31 #[.int .i64 st, .slice A1 acc.length c1, .slice (some ⟨gn, 0, none⟩) (fl.length + 1) c2]
  have hP2 := hP.below (below_alloc w1 (.cells #[.int .i64 st, .slice A1 acc.length c1, .slice (some ⟨gn, 0, none⟩) (fl.length + 1) c2] 31))
  have hR2 := hR1.alloc (.cells #[.int .i64 st, .slice A1 acc.length c1, .slice (some ⟨gn, 0, none⟩) (fl.length + 1) c2] 31)
  have hd2 := hd1.bel (below_alloc w1 (.cells #[.int .i64 st, .slice A1 acc.length c1, .slice (some ⟨gn, 0, none⟩) (fl.length + 1) c2] 31))
  obtain ⟨n2, hn2⟩ : ∃ n2, fl.length + 1 = n2 := ⟨_, rfl⟩
  have hn2p : 0 < n2 := by omega
  obtain ⟨n1, hn1⟩ : ∃ n1, acc.length = n1 := ⟨_, rfl⟩
  rw [hn1] at hac
  rw [hn1, hn2] at hX hP2 hR2 hd2
  have HN := Lib.hid (And.intro hn1 hn2)
  rw [hn1, hn2]
  clear hn1 hn2 hP
  obtain ⟨W2, hW2⟩ : ∃ W2, W2 = w1.alloc (.cells #[.int .i64 st, .slice A1 n1 c1, .slice (some ⟨gn, 0, none⟩) n2 c2] 31) := ⟨_, rfl⟩
  have hs2 : w1.heap.size + 1 = W2.heap.size := by rw [hW2]; simp
  rw [← hW2] at hX hP2 hR2 hd2
  go_wp2_with fail
  rw [← hW2]
  clear hW2
  refine (l1Below_any g 14 p _ hd2.2 hpn (by omega) (by omega)).mono ?_
  rintro e w3 ⟨r, rfl, hr, hdr3⟩
  have hX3 := hX.drawn hdr3 (by omega)
  have hR3 := hR2.drawn hdr3 (by omega)
  have hP3 := hP2.drawn hdr3 (by omega)
  have hd3 := hd2.trans hdr3
  have hs3 := hdr3.1.size
  clear hX hR2 hP2 hd2
  have x0 := hX3.cell 0; have x1 := hX3.cell 1; have x2 := hX3.cell 2
  have r0 := hR3.cell 0; have r1 := hR3.cell 1; have r2 := hR3.cell 2
  have z0 := hR3.frozen 0; have z1 := hR3.frozen 1; have z2 := hR3.frozen 2
  have y0 := hX3.frozen 0; have y1 := hX3.frozen 1
  have lR := hR3.lt; have lX := hX3.lt
  simp at x0 x1 x2 r0 r1 r2
  by_cases h0 : r = 0
  · subst h0
    clear hr
    have hx : Sl (w3.alloc (.cells #[.int .i64 (-1), .int .i64 12, .int .i64 1] 3)) (· = w3.heap.size) 1 (some ⟨w3.heap.size, 0, none⟩) 3 (ints [-1, 12, 1]) :=
      sl_new (p := (· = w3.heap.size)) (w := w3) (cs := #[.int .i64 (-1), .int .i64 12, .int .i64 1]) (t := 3) (n := 3) (size := 1) (g := w3.heap.size) rfl rfl (by decide) rfl
    go_wp2_with fail
    refine (l1PickInt_any g 3 _ _ _ p _ _ (hd3.2.keep (below_alloc w3 _)) hpn hx (fun b hb => by have hb : b = w3.heap.size := hb; omega) (by omega) (by omega)).mono ?_
    rintro e w5 ⟨x, rfl, _, hdr5⟩
    have hX5 := ((hX3.alloc (.cells #[.int .i64 (-1), .int .i64 12, .int .i64 1] 3)).drawn hdr5 (by omega))
    have hR5 := ((hR3.alloc (.cells #[.int .i64 (-1), .int .i64 12, .int .i64 1] 3)).drawn hdr5 (by omega))
    have hP5 := (hP3.below (below_alloc w3 (.cells #[.int .i64 (-1), .int .i64 12, .int .i64 1] 3))).drawn hdr5 (by omega)
    have hd5 := (hd3.bel (below_alloc w3 (.cells #[.int .i64 (-1), .int .i64 12, .int .i64 1] 3))).trans hdr5
    clear x0 x1 x2 r0 r1 r2 z0 z1 z2 y0 y1
    have x0 := hX5.cell 0; have x1 := hX5.cell 1; have x2 := hX5.cell 2
    have r0 := hR5.cell 0; have r1 := hR5.cell 1; have r2 := hR5.cell 2
    have z0 := hR5.frozen 0; have z1 := hR5.frozen 1; have z2 := hR5.frozen 2
    have y0 := hX5.frozen 0
    have lR' := hR5.lt; have lX' := hX5.lt
    simp at x0 x1 x2 r0 r1 r2
    have hR6 := hR5.set_ne (g' := w1.heap.size) (i := 0) (by omega) (.int .i64 x)
    have T := hR6.set3 (x' := .int .i64 x) (y' := .slice A1 n1 c1) (z' := .slice (some ⟨gn, 0, none⟩) n2 c2)
    have t0 := T.cell 0; have t1 := T.cell 1; have t2 := T.cell 2
    simp at t0 t1 t2
    have hA6 := (hP5.blk (i := 0) (u := .int .i64 x) hX5).aut (st := x)
    go_wp2_with fail
    refine bodyPost_ret (v := .agg #[.int .i64 x, .slice A1 n1 c1, .slice (some ⟨gn, 0, none⟩) n2 c2]) (by simp [results, Tryz.results32, go_sem, t0, t1, t2]) rfl ?_
    exact SomeAny.fin (hd5.grown (grown_set _ _ _ _) hg hp (fun b e => by injection e with e; omega)) hg hp hA6 (by omega)
  · by_cases h1 : r = 1
    · subst h1
      clear h0 hr
      have hws : w.heap.size + 1 ≤ w3.heap.size := by omega
      have ha3 : w3.ownsRow (w.heap.size + 1) 4 1 (.slice A1 n1 c1) n1 (bools acc) := by have := hP3.a; rwa [HN.out.1] at this
      go_wp2_with (at_builtin; refine wpList_app1 elBool rfl (.tmp 17) (.tmp 18) rfl (w.heap.size + 1) (.slice A1 n1 c1) n1 (bools acc) rfl ha3 #[.bool true] _ rfl (by simp) rfl (by simp [Value.oneCell']) (by omega) (by omega) hws ?_; intro g6 c7 w6 ho6 hg6 hb6 _ _; have hX6 := hX3.grown hg6 (own_blk_ne ha3 hX3 (by decide)); have hR6 := hR3.grown hg6 (own_blk_ne ha3 hR3 (by decide)); have hd6 := hd3.grown hg6 hg hp (fun b hb => by have := own_ge ha3 b hb; omega); have q0' := hR6.cell 0; have q1' := hR6.cell 1; have q2' := hR6.cell 2; have z0' := hR6.frozen 0; have z1' := hR6.frozen 1; have z2' := hR6.frozen 2; have y1' := hX6.frozen 1; have x0' := hX6.cell 0; have x1' := hX6.cell 1; have x2' := hX6.cell 2; have lR' := hR6.lt; have lX' := hX6.lt; simp at q0' q1' q2' x0' x1' x2')
      have hR7 := hR6.set_ne (g' := w1.heap.size) (i := 1) (by omega) (.slice (some ⟨g6, 0, none⟩) (n1 + 1) c7)
      have T := hR7.set3 (x' := .int .i64 st) (y' := .slice (some ⟨g6, 0, none⟩) (n1 + 1) c7) (z' := .slice (some ⟨gn, 0, none⟩) n2 c2)
      have t0 := T.cell 0; have t1 := T.cell 1; have t2 := T.cell 2
      simp at t0 t1 t2
      have hP6 : AP w6 (w.heap.size + 1) (acc ++ [true]) (.slice (some ⟨b0, 0, none⟩) 9 c0, q2) fl (.slice (some ⟨g6, 0, none⟩) (n1 + 1) c7) (.slice (some ⟨gn, 0, none⟩) n2 c2) :=
        ⟨by rw [← bools_snoc]; have : (acc ++ [true]).length = n1 + 1 := by rw [List.length_append, HN.out.1]; rfl
            rw [this]; exact ho6, hP3.n.kept hg6 (own_ne hP3.n ha3 (by decide)), hP3.r.far ha3 hg6 (by decide)⟩
      have hA6 := (hP6.blk (i := 1) (u := .slice (some ⟨g6, 0, none⟩) (n1 + 1) c7) hX6).aut (st := st)
      refine bodyPost_ret (v := .agg #[.int .i64 st, .slice (some ⟨g6, 0, none⟩) (n1 + 1) c7, .slice (some ⟨gn, 0, none⟩) n2 c2]) (by simp [results, Tryz.results32, go_sem, t0, t1, t2]) rfl ?_
      exact SomeAny.fin (hd6.grown (grown_set _ _ _ _) hg hp (fun b e => by injection e with e; omega)) hg hp hA6 (by omega)
    · by_cases h2 : r = 2
      · subst h2
        clear h0 h1 hr
        have hq := IRows.head hP3.r
        rw [HQ9.out] at hq
        have hb0g := (own_ge hq b0 rfl)
        have hb0l := (hq.lt b0 rfl).2
        have hgng := own_ge hP3.n gn rfl
        have hgnl := (hP3.n.lt gn rfl).2
        have cn : w3.cell? ⟨gn, 0, none⟩ = some (.slice (some ⟨b0, 0, none⟩) 9 c0) := by
          have := hP3.n
          rw [HN.out.2] at this
          have := this.cellAt 0 (by omega)
          simpa using this
        have hn2i : (0 : Int) < (n2 : Int) := by omega
        have hx : Sl (w3.drew.alloc (.cells #[.int .i64 (-2), .int .i64 12, .int .i64 0] 3)) (· = w3.heap.size) 1 (some ⟨w3.heap.size, 0, none⟩) 3 (ints [-2, 12, 0]) :=
          sl_new (p := (· = w3.heap.size)) (w := w3.drew) (cs := #[.int .i64 (-2), .int .i64 12, .int .i64 0]) (t := 3) (n := 3) (size := 1) (g := w3.heap.size) rfl rfl (by decide) rfl
        go_upto_region 8 with fail
        have hS0 : (fun w' : World => w'.cell? ⟨w1.heap.size, 2, none⟩ = some (.slice (some ⟨gn, 0, none⟩) n2 c2) ∧ w'.cell? ⟨gn, 0, none⟩ = some (.slice (some ⟨b0, 0, none⟩) 9 c0)) w3.drew := ⟨x2, cn⟩
        have hbD : Below w3.heap.size w3 (w3.drew.alloc (.cells #[.int .i64 (-2), .int .i64 12, .int .i64 0] 3)) := (Below.refl _ _).drew.alloc (Nat.le_refl _) _
        refine wp_region_X (fun w' : World => w'.cell? ⟨w1.heap.size, 2, none⟩ = some (.slice (some ⟨gn, 0, none⟩) n2 c2) ∧ w'.cell? ⟨gn, 0, none⟩ = some (.slice (some ⟨b0, 0, none⟩) 9 c0)) 8 (by kernel_rfl) ?_
        (refine wpX_take (i := 0) (v := ?_) (by simp only [List.getElem?_toArray, List.getElem?_cons_succ, List.getElem?_cons_zero]; rfl) (by kernel_rfl) (by kernel_rfl) (by kernel_rfl) (by kernel_rfl) (by exact fun _ _ _ h => h) (Or.inl ⟨by rfl, ?_⟩) (by assumption) ?_; rotate_left; (intro w hSw; (try dsimp only at hSw); go_simp); (try with_reducible rfl); (try simp only [Act.put, List.setIfInBounds_toArray, List.set_cons_zero, List.set_cons_succ]))
        (refine wpX_take (i := 1) (v := ?_) (by simp only [List.getElem?_toArray, List.getElem?_cons_succ, List.getElem?_cons_zero]; rfl) (by kernel_rfl) (by kernel_rfl) (by kernel_rfl) (by kernel_rfl) (by exact fun _ _ _ h => h) (Or.inl ⟨by rfl, ?_⟩) (by assumption) ?_; rotate_left; (intro w hSw; (try dsimp only at hSw); go_simp); (try with_reducible rfl); (try simp only [Act.put, List.setIfInBounds_toArray, List.set_cons_zero, List.set_cons_succ]))
        (refine wpX_take (i := 2) (v := ?_) (by simp only [List.getElem?_toArray, List.getElem?_cons_succ, List.getElem?_cons_zero]; rfl) (by kernel_rfl) (by kernel_rfl) (by kernel_rfl) (by kernel_rfl) (by exact fun _ _ _ h => h) (Or.inl ⟨by rfl, ?_⟩) (by assumption) ?_; rotate_left; (intro w hSw; (try dsimp only at hSw); go_simp); (try with_reducible rfl); (try simp only [Act.put, List.setIfInBounds_toArray, List.set_cons_zero, List.set_cons_succ]))
        (refine wpX_take (i := 3) (v := ?_) (by simp only [List.getElem?_toArray, List.getElem?_cons_succ, List.getElem?_cons_zero]; rfl) (by kernel_rfl) (by kernel_rfl) (by kernel_rfl) (by kernel_rfl) (by exact fun _ _ _ h => h) (Or.inl ⟨by rfl, ?_⟩) (by assumption) ?_; rotate_left; (intro w hSw; (try dsimp only at hSw); go_simp); (try with_reducible rfl); (try simp only [Act.put, List.setIfInBounds_toArray, List.set_cons_zero, List.set_cons_succ]))
        (refine wpX_take (i := 4) (v := ?_) (by simp only [List.getElem?_toArray, List.getElem?_cons_succ, List.getElem?_cons_zero]; rfl) (by kernel_rfl) (by kernel_rfl) (by kernel_rfl) (by kernel_rfl) (by exact fun _ _ _ h => h) (Or.inl ⟨by rfl, ?_⟩) (by assumption) ?_; rotate_left; (intro w hSw; (try dsimp only at hSw); go_simp); (try with_reducible rfl); (try simp only [Act.put, List.setIfInBounds_toArray, List.set_cons_zero, List.set_cons_succ]))
        refine wpX_one (i := 5) (by kernel_rfl) (by simp only [List.getElem?_toArray, List.getElem?_cons_succ, List.getElem?_cons_zero]; rfl) (fun K hK => ?_)
        go_simp
        have s5 : (fun w' : World => w'.cell? ⟨w1.heap.size, 2, none⟩ = some (.slice (some ⟨gn, 0, none⟩) n2 c2) ∧ w'.cell? ⟨gn, 0, none⟩ = some (.slice (some ⟨b0, 0, none⟩) 9 c0)) (w3.drew.alloc (.cells #[.int .i64 (-2), .int .i64 12, .int .i64 0] 3)) := ⟨(hX3.below hbD hX3.lt).cell 2, (hbD.cell (p := ⟨gn, 0, none⟩) hgnl).trans cn⟩
        (refine hK.out _ _ (Or.inr s5) ?_; clear hK; (try simp only [Act.put, List.setIfInBounds_toArray, List.set_cons_zero, List.set_cons_succ]))
        refine wpX_one (i := 6) (by kernel_rfl) (by simp only [List.getElem?_toArray, List.getElem?_cons_succ, List.getElem?_cons_zero]; rfl) (fun K hK => ?_)
        go_simp
        refine (l1PickInt_any g 3 _ _ _ p _ _ ((hd3.2.keep hbD)) hpn hx (fun b hb => by have hb : b = w3.heap.size := hb; omega) (by omega) (by omega)).mono ?_
        rintro e w5 ⟨x, rfl, _, hdr5⟩
        have hX5 := (hX3.below hbD hX3.lt).drawn hdr5 (by omega)
        have hR5 := (hR3.below hbD hR3.lt).drawn hdr5 (by omega)
        have hP5 := (hP3.below hbD).drawn hdr5 (by omega)
        have hd5 := (hd3.bel hbD).trans hdr5
        have hq5 := IRows.head hP5.r
        rw [HQ9.out] at hq5
        have cn5 : w5.cell? ⟨gn, 0, none⟩ = some (.slice (some ⟨b0, 0, none⟩) 9 c0) := by
          have := hP5.n
          rw [HN.out.2] at this
          have := this.cellAt 0 (by omega)
          simpa using this
        have s6 : (fun w' : World => w'.cell? ⟨w1.heap.size, 2, none⟩ = some (.slice (some ⟨gn, 0, none⟩) n2 c2) ∧ w'.cell? ⟨gn, 0, none⟩ = some (.slice (some ⟨b0, 0, none⟩) 9 c0)) w5 := ⟨hX5.cell 2, cn5⟩
        have ci : ∃ y, w5.cell? ⟨b0, 0, none⟩ = some (.int .i64 y) := ⟨_, own_int_at hq5 (by omega)⟩
        obtain ⟨y, ci⟩ := ci
        have zi := hq5.frozenAt 0
        have lb5 := (hq5.lt b0 rfl).2
        clear x0 x1 x2 r0 r1 r2 z0 z1 z2 y0 y1
        (refine hK.out _ _ (Or.inr s6) ?_; clear hK; (try simp only [Act.put, List.setIfInBounds_toArray, List.set_cons_zero, List.set_cons_succ]))
        (refine wpX_take (i := 7) (v := ?_) (by simp only [List.getElem?_toArray, List.getElem?_cons_succ, List.getElem?_cons_zero]; rfl) (by kernel_rfl) (by kernel_rfl) (by kernel_rfl) (by kernel_rfl) (by exact fun _ _ _ h => h) (Or.inl ⟨by rfl, ?_⟩) (by assumption) ?_; rotate_left; (intro w hSw; (try dsimp only at hSw); go_simp); (try with_reducible rfl); (try simp only [Act.put, List.setIfInBounds_toArray, List.set_cons_zero, List.set_cons_succ]))
        refine wpX_one (i := 8) (by kernel_rfl) (by simp only [List.getElem?_toArray, List.getElem?_cons_succ, List.getElem?_cons_zero]; rfl) (fun K hK => ?_)
        go_simp
        (refine hK.out _ _ (Or.inl rfl) ?_; clear hK; (try simp only [Act.put, List.setIfInBounds_toArray, List.set_cons_zero, List.set_cons_succ]))
        refine wpX_done (by kernel_rfl) ?_ _
        have ho := hq5.stored 0 (.int .i64 x)
        have hP6 : AP (w5.setCell ⟨b0, 0, none⟩ (.int .i64 x)) (w.heap.size + 1) acc (.slice (some ⟨b0, 0, none⟩) 9 c0, q2.set 0 x) fl (.slice A1 n1 c1) (.slice (some ⟨gn, 0, none⟩) n2 c2) := by
          have hpw := List.pairwise_cons.1 hP5.r.apart
          have hl : (q2.set 0 x).length = 9 := by rw [List.length_set]; exact HQ9.out
          refine ⟨hP5.a.kept ho.2 (own_ne hP5.a hq5 (by decide)), hP5.n.kept ho.2 (own_ne hP5.n hq5 (by decide)), ⟨fun z hz => ?_, List.pairwise_cons.2 ⟨fun z hz => hpw.1 z hz, hpw.2⟩⟩⟩
          rcases List.mem_cons.1 hz with rfl | hz
          · refine ⟨?_, by simp [Value.ownBlock]⟩
            show World.ownsRow _ _ _ _ _ (q2.set 0 x).length (ints (q2.set 0 x))
            rw [hl, ← ints_set]; exact ho.1
          · have := hP5.r.own z (List.mem_cons_of_mem _ hz)
            exact ⟨this.1.kept ho.2 (.inr (fun e => hpw.1 z hz e.symm)), this.2⟩
        have hX6 := hX5.grown ho.2 (own_blk_ne hq5 hX5 (by decide))
        have hR6 := hR5.grown ho.2 (own_blk_ne hq5 hR5 (by decide))
        have hd6 := hd5.grown ho.2 hg hp (fun b e => by injection e with e; omega)
        have x0 := hX6.cell 0; have x1 := hX6.cell 1; have x2 := hX6.cell 2
        have r0 := hR6.cell 0; have r1 := hR6.cell 1; have r2 := hR6.cell 2
        have z0 := hR6.frozen 0; have z1 := hR6.frozen 1; have z2 := hR6.frozen 2
        have lR' := hR6.lt; have lX' := hX6.lt
        have T := hR6.set3 (x' := .int .i64 st) (y' := .slice A1 n1 c1) (z' := .slice (some ⟨gn, 0, none⟩) n2 c2)
        have t0 := T.cell 0; have t1 := T.cell 1; have t2 := T.cell 2
        obtain ⟨w6, hw6⟩ : ∃ w6, w6 = w5.setCell ⟨b0, 0, none⟩ (.int .i64 x) := ⟨_, rfl⟩
        rw [← hw6] at x0 x1 x2 r0 r1 r2 z0 z1 z2 lR' lX' t0 t1 t2 hP6 hR6 hd6 ⊢
        clear hw6 ho hX6 hq5 cn5 s6 ci zi hX5 hR5 hP5 hd5
        simp at x0 x1 x2 r0 r1 r2 t0 t1 t2
        have hA6 := hP6.aut (st := st)
        go_wp2_with fail
        refine bodyPost_ret (v := .agg #[.int .i64 st, .slice A1 n1 c1, .slice (some ⟨gn, 0, none⟩) n2 c2]) (by simp [results, Tryz.results32, go_sem, t0, t1, t2]) rfl ?_
        exact SomeAny.fin hd6 hg hp hA6 (by omega)
      · by_cases h3 : r = 3
        · subst h3
          clear h0 h1 h2 hr
          have hq := IRows.head hP3.r
          rw [HQ9.out] at hq
          have hb0g := (own_ge hq b0 rfl)
          have hcap : (8 : Int) ≤ (c0 : Int) := by have := own_cap hq; omega
          have hgng := own_ge hP3.n gn rfl
          have hgnl := (hP3.n.lt gn rfl).2
          have hn3 := hP3.n
          rw [HN.out.2] at hn3
          have cn : w3.cell? ⟨gn, 0, none⟩ = some (.slice (some ⟨b0, 0, none⟩) 9 c0) := by
            have := hn3.cellAt 0 (by omega)
            simpa using this
          have zn := hn3.frozenAt 0
          have hn2i : (0 : Int) < (n2 : Int) := by omega
          go_upto_region 10 with fail
          have hS0 : (fun w' : World => w'.cell? ⟨w1.heap.size, 2, none⟩ = some (.slice (some ⟨gn, 0, none⟩) n2 c2) ∧ w'.cell? ⟨gn, 0, none⟩ = some (.slice (some ⟨b0, 0, none⟩) 9 c0)) w3.drew := ⟨x2, cn⟩
          refine wp_region_X (fun w' : World => w'.cell? ⟨w1.heap.size, 2, none⟩ = some (.slice (some ⟨gn, 0, none⟩) n2 c2) ∧ w'.cell? ⟨gn, 0, none⟩ = some (.slice (some ⟨b0, 0, none⟩) 9 c0)) 8 (by kernel_rfl) ?_
          (refine wpX_take (i := 0) (v := ?_) (by simp only [List.getElem?_toArray, List.getElem?_cons_succ, List.getElem?_cons_zero]; rfl) (by kernel_rfl) (by kernel_rfl) (by kernel_rfl) (by kernel_rfl) (by exact fun _ _ _ h => h) (Or.inl ⟨by rfl, ?_⟩) (by assumption) ?_; rotate_left; (intro w hSw; (try dsimp only at hSw); go_simp); (try with_reducible rfl); (try simp only [Act.put, List.setIfInBounds_toArray, List.set_cons_zero, List.set_cons_succ]))
          (refine wpX_take (i := 1) (v := ?_) (by simp only [List.getElem?_toArray, List.getElem?_cons_succ, List.getElem?_cons_zero]; rfl) (by kernel_rfl) (by kernel_rfl) (by kernel_rfl) (by kernel_rfl) (by exact fun _ _ _ h => h) (Or.inl ⟨by rfl, ?_⟩) (by assumption) ?_; rotate_left; (intro w hSw; (try dsimp only at hSw); go_simp); (try with_reducible rfl); (try simp only [Act.put, List.setIfInBounds_toArray, List.set_cons_zero, List.set_cons_succ]))
          (refine wpX_take (i := 2) (v := ?_) (by simp only [List.getElem?_toArray, List.getElem?_cons_succ, List.getElem?_cons_zero]; rfl) (by kernel_rfl) (by kernel_rfl) (by kernel_rfl) (by kernel_rfl) (by exact fun _ _ _ h => h) (Or.inl ⟨by rfl, ?_⟩) (by assumption) ?_; rotate_left; (intro w hSw; (try dsimp only at hSw); go_simp); (try with_reducible rfl); (try simp only [Act.put, List.setIfInBounds_toArray, List.set_cons_zero, List.set_cons_succ]))
          (refine wpX_take (i := 3) (v := ?_) (by simp only [List.getElem?_toArray, List.getElem?_cons_succ, List.getElem?_cons_zero]; rfl) (by kernel_rfl) (by kernel_rfl) (by kernel_rfl) (by kernel_rfl) (by exact fun _ _ _ h => h) (Or.inl ⟨by rfl, ?_⟩) (by assumption) ?_; rotate_left; (intro w hSw; (try dsimp only at hSw); go_simp); (try with_reducible rfl); (try simp only [Act.put, List.setIfInBounds_toArray, List.set_cons_zero, List.set_cons_succ]))
          (refine wpX_take (i := 4) (v := ?_) (by simp only [List.getElem?_toArray, List.getElem?_cons_succ, List.getElem?_cons_zero]; rfl) (by kernel_rfl) (by kernel_rfl) (by kernel_rfl) (by kernel_rfl) (by exact fun _ _ _ h => h) (Or.inl ⟨by rfl, ?_⟩) (by assumption) ?_; rotate_left; (intro w hSw; (try dsimp only at hSw); go_simp); (try with_reducible rfl); (try simp only [Act.put, List.setIfInBounds_toArray, List.set_cons_zero, List.set_cons_succ]))
          (refine wpX_take (i := 5) (v := ?_) (by simp only [List.getElem?_toArray, List.getElem?_cons_succ, List.getElem?_cons_zero]; rfl) (by kernel_rfl) (by kernel_rfl) (by kernel_rfl) (by kernel_rfl) (by exact fun _ _ _ h => h) (Or.inl ⟨by rfl, ?_⟩) (by assumption) ?_; rotate_left; (intro w hSw; (try dsimp only at hSw); go_simp); (try with_reducible rfl); (try simp only [Act.put, List.setIfInBounds_toArray, List.set_cons_zero, List.set_cons_succ]))
          (refine wpX_take (i := 6) (v := ?_) (by simp only [List.getElem?_toArray, List.getElem?_cons_succ, List.getElem?_cons_zero]; rfl) (by kernel_rfl) (by kernel_rfl) (by kernel_rfl) (by kernel_rfl) (by exact fun _ _ _ h => h) (Or.inl ⟨by rfl, ?_⟩) (by assumption) ?_; rotate_left; (intro w hSw; (try dsimp only at hSw); go_simp); (try with_reducible rfl); (try simp only [Act.put, List.setIfInBounds_toArray, List.set_cons_zero, List.set_cons_succ]))
          (refine wpX_take (i := 7) (v := ?_) (by simp only [List.getElem?_toArray, List.getElem?_cons_succ, List.getElem?_cons_zero]; rfl) (by kernel_rfl) (by kernel_rfl) (by kernel_rfl) (by kernel_rfl) (by exact fun _ _ _ h => h) (Or.inl ⟨by rfl, ?_⟩) (by assumption) ?_; rotate_left; (intro w hSw; (try dsimp only at hSw); go_simp); (try with_reducible rfl); (try simp only [Act.put, List.setIfInBounds_toArray, List.set_cons_zero, List.set_cons_succ]))
          refine wpX_one (i := 8) (by kernel_rfl) (by simp only [List.getElem?_toArray, List.getElem?_cons_succ, List.getElem?_cons_zero]; rfl) (fun K hK => ?_)
          go_simp
          (refine hK.out _ _ (Or.inl rfl) ?_; clear hK; (try simp only [Act.put, List.setIfInBounds_toArray, List.set_cons_zero, List.set_cons_succ]))
          refine wpX_done (by kernel_rfl) ?_ _
          have ho := hn3.stored 0 (.slice (some ⟨b0, 0, none⟩) 8 c0)
          have hP6 : AP (w3.setCell ⟨gn, 0, none⟩ (.slice (some ⟨b0, 0, none⟩) 8 c0)) (w.heap.size + 1) acc (.slice (some ⟨b0, 0, none⟩) 8 c0, q2.take 8) fl (.slice A1 n1 c1) (.slice (some ⟨gn, 0, none⟩) n2 c2) := by
            have hpw := List.pairwise_cons.1 hP3.r.apart
            have hl : (q2.take 8).length = 8 := by rw [List.length_take, HQ9.out]; rfl
            have hr6 := hP3.r.far hn3 ho.2 (by decide)
            refine ⟨hP3.a.kept ho.2 (own_ne hP3.a hn3 (by decide)), ?_, ⟨fun z hz => ?_, List.pairwise_cons.2 ⟨fun z hz => hpw.1 z hz, hpw.2⟩⟩⟩
            · rw [HN.out.2]; exact ho.1
            · rcases List.mem_cons.1 hz with rfl | hz
              · refine ⟨?_, by simp [Value.ownBlock]⟩
                have hh := IRows.head hr6
                rw [HQ9.out] at hh
                have := own_shrink (k := 8) hh (by omega)
                show World.ownsRow _ _ _ _ _ (q2.take 8).length (ints (q2.take 8))
                rw [hl]
                have e : ints (q2.take 8) = (ints q2).take 8 := by simp [ints, List.map_take]
                rw [e]; exact this
              · exact hr6.own z (List.mem_cons_of_mem _ hz)
          have hX6 := hX3.grown ho.2 (own_blk_ne hn3 hX3 (by decide))
          have hR6 := hR3.grown ho.2 (own_blk_ne hn3 hR3 (by decide))
          have hd6 := hd3.grown ho.2 hg hp (fun b e => by injection e with e; omega)
          have hX6' : Blk (w3.setCell ⟨gn, 0, none⟩ (.slice (some ⟨b0, 0, none⟩) 8 c0)).drew w1.heap.size 31 #[.int .i64 st, .slice A1 n1 c1, .slice (some ⟨gn, 0, none⟩) n2 c2] := hX6
          clear x0 x1 x2 r0 r1 r2 z0 z1 z2 y0 y1
          have x0 := hX6.cell 0; have x1 := hX6.cell 1; have x2 := hX6.cell 2
          have r0 := hR6.cell 0; have r1 := hR6.cell 1; have r2 := hR6.cell 2
          have z0 := hR6.frozen 0; have z1 := hR6.frozen 1; have z2 := hR6.frozen 2
          have lR' := hR6.lt; have lX' := hX6.lt
          have T := hR6.set3 (x' := .int .i64 st) (y' := .slice A1 n1 c1) (z' := .slice (some ⟨gn, 0, none⟩) n2 c2)
          have t0 := T.cell 0; have t1 := T.cell 1; have t2 := T.cell 2
          obtain ⟨w6, hw6⟩ : ∃ w6, w6 = w3.setCell ⟨gn, 0, none⟩ (.slice (some ⟨b0, 0, none⟩) 8 c0) := ⟨_, rfl⟩
          rw [← hw6] at x0 x1 x2 r0 r1 r2 z0 z1 z2 lR' lX' t0 t1 t2 hP6 hR6 hd6 ⊢
          clear hw6 ho hX6 hq cn hS0 zn hX3 hR3 hP3 hd3 hn3 hX6'
          simp at x0 x1 x2 r0 r1 r2 t0 t1 t2
          have hA6 := hP6.aut (st := st)
          go_wp2_with fail
          refine bodyPost_ret (v := .agg #[.int .i64 st, .slice A1 n1 c1, .slice (some ⟨gn, 0, none⟩) n2 c2]) (by simp [results, Tryz.results32, go_sem, t0, t1, t2]) rfl ?_
          obtain ⟨v, a, e1, e2, e3⟩ := SomeAny.fin hd6 hg hp hA6 (by omega)
          first | exact ⟨v, a, e1, e2, e3⟩ | exact ⟨v, a, e1, e2.keep (r := none) ⟨rfl, rfl, rfl, Nat.le_refl _, fun _ _ _ => rfl⟩ (fun b e => by cases e), e3.bel (Below.refl _ _).drew⟩
        · have i0 : ((r : Int) == 0) = false := by simp; omega
          have i1 : ((r : Int) == 1) = false := by simp; omega
          have i2 : ((r : Int) == 2) = false := by simp; omega
          have i3 : ((r : Int) == 3) = false := by simp; omega
          clear h0 h1 h2 h3 hr
          have T := hR3.set3 (x' := .int .i64 st) (y' := .slice A1 n1 c1) (z' := .slice (some ⟨gn, 0, none⟩) n2 c2)
          have t0 := T.cell 0; have t1 := T.cell 1; have t2 := T.cell 2
          simp at t0 t1 t2
          have hA6 := hP3.aut (st := st)
          go_wp2_with fail
          refine bodyPost_ret (v := .agg #[.int .i64 st, .slice A1 n1 c1, .slice (some ⟨gn, 0, none⟩) n2 c2]) (by simp [results, Tryz.results32, go_sem, t0, t1, t2]) rfl ?_
          exact SomeAny.fin hd3 hg hp hA6 (by omega)
end Go.Proofs.YtmnhpbbapkcdjaaGreat
