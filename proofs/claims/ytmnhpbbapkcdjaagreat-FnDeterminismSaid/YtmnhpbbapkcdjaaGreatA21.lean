/- Walks: l8Known, l8Make, l8Expr; Walks: l8Known, l8Expr; Walks: l10Pos. No condition. -/
import Derived.Test.YtmnhpbbapkcdjaaGreatA20

/- Walks: l8Known, l8Make, l8Expr. -/
namespace Go.Proofs.YtmnhpbbapkcdjaaGreat
open Go.RowKit

/-- some expression, in memory of the call's own -/
def SomeEx (w w' : World) (p : Nat → Prop) (g N : Nat) (e : Ending) : Prop := ∃ v L, e = .returned v ∧ ExO w' w.heap.size v L ∧ Drawn w w' p g ∧ L.length ≤ N
section
variable {w w' w1 wk : World} {p : Nat → Prop} {g base N : Nat} {v u : Value} {L : List Tk}
theorem ExO.drawn (h : ExO w base v L) (hd : Drawn w w' p g) (hg : g < base) : ExO w' base v L := h.kept hd.1 (fun b e => by injection e with e; omega)
theorem Blk.drawn {R : Nat} {t : TypeId} {cs : Array Value} (h : Blk w R t cs) (hd : Drawn w w' p g) (hne : R ≠ g) : Blk w' R t cs := h.grown hd.1 (by simpa using hne)
theorem SomeEx.fin {n : Nat} {cs : Array Value} (hD : Drawn w wk p g) (hg : g < w.heap.size) (hp : ∀ b, p b → b < g) (hR : Blk wk w.heap.size 66 cs) (ho : wk.ownsRow base 89 4 u n (tks L)) (hn : n = L.length) (hb : w.heap.size ≤ base) (hN : L.length ≤ N) :
    SomeEx w (wk.setCell ⟨w.heap.size, 0, none⟩ u) p g N (.returned (.agg #[u])) := by
  subst hn
  exact ⟨_, L, rfl, ⟨u, rfl, own_mono (own_set ho hR (by decide) 0 u) hb⟩, hD.grown (grown_set _ _ _ _) hg hp (fun b e => by injection e with e; omega), hN⟩
end
set_option maxRecDepth 100000 in
set_option maxHeartbeats 2000000 in
theorem make_zero (g : Nat) (p : Nat → Prop) (w : World) (h : Cur w p g) (hp : ∀ b, p b → b < g) (hg : g < w.heap.size) :
    Calls Tryz.prog 85 #[.pointer (some ⟨g, 0, none⟩), .int .i64 0] w fun e w' => SomeEx w w' p g 1 e := by
  have hpn : ∀ b, p b → b ≠ g := fun b hb e => by have := hp b hb; omega
  have hR := Blk.new w 66 #[.slice none 0 0]
  go_enter Tryz.func85, Tryz.ntmps85
  go_wp2_with fail
  refine (l1Once_any g 12 p _ (h.keep (below_alloc w _)) hpn (by omega) (by omega)).mono ?_
  rintro e w1 ⟨r, rfl, hd⟩
  have hd1 : Drawn w w1 p g := (Drawn.of h (below_alloc w (.cells #[.slice none 0 0] 66))).trans hd
  have hR1 := hR.drawn hd (by omega)
  have hs1 := hd1.1.size
  cases r with
  | true =>
    have hx : Sl (w1.alloc (.cells #[.int .i64 1, .int .i64 2] 3)) (· = w1.heap.size) 1 (some ⟨w1.heap.size, 0, none⟩) 2 (ints [1, 2]) :=
      sl_new (p := (· = w1.heap.size)) (w := w1) (cs := #[.int .i64 1, .int .i64 2]) (t := 3) (n := 2) (size := 1) (g := w1.heap.size) rfl rfl (by decide) rfl
    go_wp2_with fail
    refine (l1PickInt_any g 2 _ _ _ p _ _ (hd1.2.keep (below_alloc w1 _)) hpn hx (fun b hb => by have hb : b = w1.heap.size := hb; omega) (by omega) (by omega)).mono ?_
    rintro e w2 ⟨x, rfl, _, hd2⟩
    have hd12 := (hd1.bel (below_alloc w1 (.cells #[.int .i64 1, .int .i64 2] 3))).trans hd2
    have hR2 := (hR1.alloc (.cells #[.int .i64 1, .int .i64 2] 3)).drawn hd2 (by omega)
    go_wp2_with fail
    refine (l8Leaf_any x _).mono ?_
    rintro e w3 ⟨v3, rfl, hO, hb3⟩
    have hd13 := hd12.bel hb3
    have hR3 := hR2.below hb3 hR2.lt
    have q3 := hR3.cell 0; have z3 := hR3.frozen 0; have l3 := hR3.lt
    simp at q3
    obtain ⟨Au, cu, rfl, ho⟩ := hO.form
    simp only [List.length_cons, List.length_nil, Nat.zero_add] at ho ⊢
    go_wp2_with fail
    refine bodyPost_ret (v := .agg #[.slice Au 1 cu]) (by simp [results, Tryz.results85, go_sem, q3]) rfl ?_
    exact SomeEx.fin hd13 hg hp hR3 ho rfl hd12.1.size (by simp)
  | false =>
    have hx : Sl (w1.alloc (.cells #[.int .i64 0, .int .i64 0, .int .i64 2, .int .i64 2, .int .i64 1, .int .i64 4, .int .i64 3, .int .i64 6, .int .i64 7] 3)) (· = w1.heap.size) 1 (some ⟨w1.heap.size, 0, none⟩) 9 (ints [0, 0, 2, 2, 1, 4, 3, 6, 7]) :=
      sl_new (p := (· = w1.heap.size)) (w := w1) (cs := #[.int .i64 0, .int .i64 0, .int .i64 2, .int .i64 2, .int .i64 1, .int .i64 4, .int .i64 3, .int .i64 6, .int .i64 7]) (t := 3) (n := 9) (size := 1) (g := w1.heap.size) rfl rfl (by decide) rfl
    go_wp2_with fail
    refine (l1PickInt_any g 9 _ _ _ p _ _ (hd1.2.keep (below_alloc w1 _)) hpn hx (fun b hb => by have hb : b = w1.heap.size := hb; omega) (by omega) (by omega)).mono ?_
    rintro e w2 ⟨x, rfl, _, hd2⟩
    have hd12 := (hd1.bel (below_alloc w1 (.cells #[.int .i64 0, .int .i64 0, .int .i64 2, .int .i64 2, .int .i64 1, .int .i64 4, .int .i64 3, .int .i64 6, .int .i64 7] 3))).trans hd2
    have hR2 := (hR1.alloc (.cells #[.int .i64 0, .int .i64 0, .int .i64 2, .int .i64 2, .int .i64 1, .int .i64 4, .int .i64 3, .int .i64 6, .int .i64 7] 3)).drawn hd2 (by omega)
    go_wp2_with fail
    refine (LetterExpr_any x _).mono ?_
    rintro e w3 ⟨v3, rfl, hO, hb3⟩
    have hd13 := hd12.bel hb3
    have hR3 := hR2.below hb3 hR2.lt
    have q3 := hR3.cell 0; have z3 := hR3.frozen 0; have l3 := hR3.lt
    simp at q3
    obtain ⟨Au, cu, rfl, ho⟩ := hO.form
    simp only [List.length_cons, List.length_nil, Nat.zero_add] at ho ⊢
    go_wp2_with fail
    refine bodyPost_ret (v := .agg #[.slice Au 1 cu]) (by simp [results, Tryz.results85, go_sem, q3]) rfl ?_
    exact SomeEx.fin hd13 hg hp hR3 ho rfl hd12.1.size (by simp)

set_option maxRecDepth 100000 in
set_option maxHeartbeats 4000000 in
theorem make_succ (g d : Nat) (hd2 : d ≤ 2) (p : Nat → Prop) (hp : ∀ b, p b → b < g)
    (ih : ∀ w : World, Cur w p g → g < w.heap.size → Calls Tryz.prog 85 #[.pointer (some ⟨g, 0, none⟩), .int .i64 d] w fun e w' => SomeEx w w' p g (3 ^ d) e)
    (w : World) (h : Cur w p g) (hg : g < w.heap.size) :
    Calls Tryz.prog 85 #[.pointer (some ⟨g, 0, none⟩), .int .i64 ((d : Int) + 1)] w fun e w' => SomeEx w w' p g (3 ^ (d + 1)) e := by
  have hpn : ∀ b, p b → b ≠ g := fun b hb e => by have := hp b hb; omega
  have hR := Blk.new w 66 #[.slice none 0 0]
  have H3 : Hid (3 ^ (d + 1) = 3 * 3 ^ d ∧ 1 ≤ 3 ^ d ∧ 3 ^ d ≤ 9) := Lib.hid ⟨by rw [Nat.pow_succ, Nat.mul_comm], Nat.pos_of_ne_zero (by simp), Nat.le_trans (Nat.pow_le_pow_right (by omega) hd2) (by decide)⟩
  go_enter Tryz.func85, Tryz.ntmps85
  go_wp2_with fail
  refine (l1Below_any g 6 p _ (h.keep (below_alloc w _)) hpn (by omega) (by omega)).mono ?_
  rintro e w1 ⟨r, rfl, hr, hdr⟩
  have hd1 : Drawn w w1 p g := (Drawn.of h (below_alloc w (.cells #[.slice none 0 0] 66))).trans hdr
  have hR1 := hR.drawn hdr (by omega)
  have hs1 := hd1.1.size
  have hg1 : g < w1.heap.size := by omega
  obtain rfl | rfl | rfl | rfl | rfl | rfl : r = 0 ∨ r = 1 ∨ r = 2 ∨ r = 3 ∨ r = 4 ∨ r = 5 := by omega
  · go_wp2_with fail
    refine (ih _ hd1.2 hg1).mono ?_
    rintro e w2 ⟨v2, L2, rfl, hO2, hdr2, hl2⟩
    have hg2 : g < w2.heap.size := Nat.lt_of_lt_of_le hg1 hdr2.1.size
    go_wp2_with fail
    refine (ih _ hdr2.2 hg2).mono ?_
    rintro e w3 ⟨v3, L3, rfl, hO3, hdr3, hl3⟩
    have hR3 := (hR1.drawn hdr2 (by omega)).drawn hdr3 (by omega)
    have hd3 := (hd1.trans hdr2).trans hdr3
    go_wp2_with fail
    refine (l8Join_any L2 L3 _ _ 4 0 0 0 _ _ _ (hO2.drawn hdr3 hg1).ex hO3.ex (by have := H3.out.2.2; omega)).mono ?_
    rintro e w4 ⟨v4, rfl, hO, hb4⟩
    have hR4 := hR3.below hb4 hR3.lt
    have hd4 := hd3.bel hb4
    have q9 := hR4.cell 0; have z9 := hR4.frozen 0; have l9 := hR4.lt
    simp at q9
    obtain ⟨Au, cu, rfl, ho⟩ := hO.form
    obtain ⟨M, HM⟩ : ∃ M, Hid ((L2 ++ L3 ++ [(⟨4, 0, 0, 0⟩ : Tk)]) = M) := ⟨_, Lib.hid rfl⟩
    rw [HM.out] at ho ⊢
    have hML : M.length ≤ 3 ^ (d + 1) := by rw [← HM.out, H3.out.1]; have := H3.out.2.1; simp; omega
    go_wp2_with fail
    refine bodyPost_ret (v := .agg #[.slice Au M.length cu]) (by simp [results, Tryz.results85, go_sem, q9]) rfl ?_
    exact SomeEx.fin hd4 hg hp hR4 ho rfl hd3.1.size hML
  · go_wp2_with fail
    refine (ih _ hd1.2 hg1).mono ?_
    rintro e w2 ⟨v2, L2, rfl, hO2, hdr2, hl2⟩
    have hg2 : g < w2.heap.size := Nat.lt_of_lt_of_le hg1 hdr2.1.size
    go_wp2_with fail
    refine (ih _ hdr2.2 hg2).mono ?_
    rintro e w3 ⟨v3, L3, rfl, hO3, hdr3, hl3⟩
    have hR3 := (hR1.drawn hdr2 (by omega)).drawn hdr3 (by omega)
    have hd3 := (hd1.trans hdr2).trans hdr3
    go_wp2_with fail
    refine (l8Join_any L2 L3 _ _ 4 0 0 0 _ _ _ (hO2.drawn hdr3 hg1).ex hO3.ex (by have := H3.out.2.2; omega)).mono ?_
    rintro e w4 ⟨v4, rfl, hO, hb4⟩
    have hR4 := hR3.below hb4 hR3.lt
    have hd4 := hd3.bel hb4
    have q9 := hR4.cell 0; have z9 := hR4.frozen 0; have l9 := hR4.lt
    simp at q9
    obtain ⟨Au, cu, rfl, ho⟩ := hO.form
    obtain ⟨M, HM⟩ : ∃ M, Hid ((L2 ++ L3 ++ [(⟨4, 0, 0, 0⟩ : Tk)]) = M) := ⟨_, Lib.hid rfl⟩
    rw [HM.out] at ho ⊢
    have hML : M.length ≤ 3 ^ (d + 1) := by rw [← HM.out, H3.out.1]; have := H3.out.2.1; simp; omega
    go_wp2_with fail
    refine bodyPost_ret (v := .agg #[.slice Au M.length cu]) (by simp [results, Tryz.results85, go_sem, q9]) rfl ?_
    exact SomeEx.fin hd4 hg hp hR4 ho rfl hd3.1.size hML
  · go_wp2_with fail
    refine (ih _ hd1.2 hg1).mono ?_
    rintro e w2 ⟨v2, L2, rfl, hO2, hdr2, hl2⟩
    have hg2 : g < w2.heap.size := Nat.lt_of_lt_of_le hg1 hdr2.1.size
    go_wp2_with fail
    refine (ih _ hdr2.2 hg2).mono ?_
    rintro e w3 ⟨v3, L3, rfl, hO3, hdr3, hl3⟩
    have hR3 := (hR1.drawn hdr2 (by omega)).drawn hdr3 (by omega)
    have hd3 := (hd1.trans hdr2).trans hdr3
    go_wp2_with fail
    refine (l8Join_any L2 L3 _ _ 5 0 0 0 _ _ _ (hO2.drawn hdr3 hg1).ex hO3.ex (by have := H3.out.2.2; omega)).mono ?_
    rintro e w4 ⟨v4, rfl, hO, hb4⟩
    have hR4 := hR3.below hb4 hR3.lt
    have hd4 := hd3.bel hb4
    have q9 := hR4.cell 0; have z9 := hR4.frozen 0; have l9 := hR4.lt
    simp at q9
    obtain ⟨Au, cu, rfl, ho⟩ := hO.form
    obtain ⟨M, HM⟩ : ∃ M, Hid ((L2 ++ L3 ++ [(⟨5, 0, 0, 0⟩ : Tk)]) = M) := ⟨_, Lib.hid rfl⟩
    rw [HM.out] at ho ⊢
    have hML : M.length ≤ 3 ^ (d + 1) := by rw [← HM.out, H3.out.1]; have := H3.out.2.1; simp; omega
    go_wp2_with fail
    refine bodyPost_ret (v := .agg #[.slice Au M.length cu]) (by simp [results, Tryz.results85, go_sem, q9]) rfl ?_
    exact SomeEx.fin hd4 hg hp hR4 ho rfl hd3.1.size hML
  · go_wp2_with fail
    refine (ih _ hd1.2 hg1).mono ?_
    rintro e w2 ⟨v2, L2, rfl, hO2, hdr2, hl2⟩
    have hg2 : g < w2.heap.size := Nat.lt_of_lt_of_le hg1 hdr2.1.size
    go_wp2_with fail
    refine (ih _ hdr2.2 hg2).mono ?_
    rintro e w3 ⟨v3, L3, rfl, hO3, hdr3, hl3⟩
    have hR3 := (hR1.drawn hdr2 (by omega)).drawn hdr3 (by omega)
    have hd3 := (hd1.trans hdr2).trans hdr3
    go_wp2_with fail
    refine (l8Join_any L2 L3 _ _ 5 0 0 0 _ _ _ (hO2.drawn hdr3 hg1).ex hO3.ex (by have := H3.out.2.2; omega)).mono ?_
    rintro e w4 ⟨v4, rfl, hO, hb4⟩
    have hR4 := hR3.below hb4 hR3.lt
    have hd4 := hd3.bel hb4
    have q9 := hR4.cell 0; have z9 := hR4.frozen 0; have l9 := hR4.lt
    simp at q9
    obtain ⟨Au, cu, rfl, ho⟩ := hO.form
    obtain ⟨M, HM⟩ : ∃ M, Hid ((L2 ++ L3 ++ [(⟨5, 0, 0, 0⟩ : Tk)]) = M) := ⟨_, Lib.hid rfl⟩
    rw [HM.out] at ho ⊢
    have hML : M.length ≤ 3 ^ (d + 1) := by rw [← HM.out, H3.out.1]; have := H3.out.2.1; simp; omega
    go_wp2_with fail
    refine bodyPost_ret (v := .agg #[.slice Au M.length cu]) (by simp [results, Tryz.results85, go_sem, q9]) rfl ?_
    exact SomeEx.fin hd4 hg hp hR4 ho rfl hd3.1.size hML
  · go_wp2_with fail
    refine (ih _ hd1.2 hg1).mono ?_
    rintro e w2 ⟨v2, L2, rfl, hO2, hdr2, hl2⟩
    have hR3 := hR1.drawn hdr2 (by omega)
    have hd3 := hd1.trans hdr2
    go_wp2_with fail
    refine (l8Join_any L2 [] _ _ 6 0 0 0 _ (fun _ => True) _ hO2.ex ⟨none, 0, rfl, Sl.nil_⟩ (by have := H3.out.2.2; simp; omega)).mono ?_
    rintro e w4 ⟨v4, rfl, hO, hb4⟩
    have hR4 := hR3.below hb4 hR3.lt
    have hd4 := hd3.bel hb4
    have q9 := hR4.cell 0; have z9 := hR4.frozen 0; have l9 := hR4.lt
    simp at q9
    obtain ⟨Au, cu, rfl, ho⟩ := hO.form
    obtain ⟨M, HM⟩ : ∃ M, Hid ((L2 ++ [] ++ [(⟨6, 0, 0, 0⟩ : Tk)]) = M) := ⟨_, Lib.hid rfl⟩
    rw [HM.out] at ho ⊢
    have hML : M.length ≤ 3 ^ (d + 1) := by rw [← HM.out, H3.out.1]; have := H3.out.2.1; simp; omega
    go_wp2_with fail
    refine bodyPost_ret (v := .agg #[.slice Au M.length cu]) (by simp [results, Tryz.results85, go_sem, q9]) rfl ?_
    exact SomeEx.fin hd4 hg hp hR4 ho rfl hd3.1.size hML
  · go_wp2_with fail
    refine (l1Below_any g 3 p _ hd1.2 hpn (by omega) (by omega)).mono ?_
    rintro e w2 ⟨r2, rfl, hr2, hdr2⟩
    obtain ⟨hh, hhe, hh1, hh3⟩ : ∃ hh : Nat, 1 + (r2 : Int) = hh ∧ 1 ≤ hh ∧ hh ≤ 3 := ⟨1 + r2, by omega, by omega, by omega⟩
    have hg2 : g < w2.heap.size := Nat.lt_of_lt_of_le hg1 hdr2.1.size
    go_wp2_with fail
    refine (ih _ hdr2.2 hg2).mono ?_
    rintro e w3 ⟨v3, L2, rfl, hO3, hdr3, hl3⟩
    have hg3 : g < w3.heap.size := Nat.lt_of_lt_of_le hg2 hdr3.1.size
    have e1 : (hh : Int) + 1 = ((hh + 1 : Nat) : Int) := by omega
    have E1 := Lib.hid e1
    clear e1
    go_wp2_with fail
    rw [E1.out]
    refine (l1Below_any g (hh + 1) p _ hdr3.2 hpn (by omega) (by omega)).mono ?_
    rintro e w5 ⟨r5, rfl, hr5, hdr5⟩
    have hR5 := ((hR1.drawn hdr2 (by omega)).drawn hdr3 (by omega)).drawn hdr5 (by omega)
    have hd5 := ((hd1.trans hdr2).trans hdr3).trans hdr5
    go_wp2_with fail
    refine (l8Join_any L2 [] _ _ 7 0 r5 hh _ (fun _ => True) _ (hO3.drawn hdr5 hg2).ex ⟨none, 0, rfl, Sl.nil_⟩ (by have := H3.out.2.2; simp; omega)).mono ?_
    rintro e w4 ⟨v4, rfl, hO, hb4⟩
    have hR4 := hR5.below hb4 hR5.lt
    have hd4 := hd5.bel hb4
    have q9 := hR4.cell 0; have z9 := hR4.frozen 0; have l9 := hR4.lt
    simp at q9
    obtain ⟨Au, cu, rfl, ho⟩ := hO.form
    obtain ⟨M, HM⟩ : ∃ M, Hid ((L2 ++ [] ++ [(⟨7, 0, (r5 : Int), (hh : Int)⟩ : Tk)]) = M) := ⟨_, Lib.hid rfl⟩
    rw [HM.out] at ho ⊢
    have hML : M.length ≤ 3 ^ (d + 1) := by rw [← HM.out, H3.out.1]; have := H3.out.2.1; simp; omega
    go_wp2_with fail
    refine bodyPost_ret (v := .agg #[.slice Au M.length cu]) (by simp [results, Tryz.results85, go_sem, q9]) rfl ?_
    exact SomeEx.fin hd4 hg hp hR4 ho rfl hd5.1.size hML
theorem l8Make_any (g : Nat) (p : Nat → Prop) (hp : ∀ b, p b → b < g) : ∀ (d : Nat), d ≤ 3 → ∀ w : World, Cur w p g → g < w.heap.size → Calls Tryz.prog 85 #[.pointer (some ⟨g, 0, none⟩), .int .i64 d] w fun e w' => SomeEx w w' p g (3 ^ d) e
  | 0, _, w, h, hg => make_zero g p w h hp hg
  | d + 1, hd, w, h, hg => make_succ g d (by omega) p hp (fun w h hg => l8Make_any g p hp d (by omega) w h hg) w h hg
end Go.Proofs.YtmnhpbbapkcdjaaGreat

/- Walks: l8Known, l8Expr. -/
namespace Go.Proofs.YtmnhpbbapkcdjaaGreat
open Go.RowKit

def known : List ByteArray := [⟨#[97]⟩, ⟨#[97, 32, 98, 32, 46]⟩, ⟨#[97, 32, 42]⟩, ⟨#[97, 32, 98, 32, 124, 32, 42]⟩, ⟨#[97, 32, 97, 45, 32, 46]⟩, ⟨#[97, 32, 42, 32, 98, 32, 46]⟩, ⟨#[97, 32, 98, 32, 42, 32, 46, 32, 99, 32, 46]⟩, ⟨#[97, 32, 97, 32, 124, 32, 42]⟩, ⟨#[97, 32, 98, 32, 46, 32, 42]⟩, ⟨#[48, 32, 97, 32, 46, 32, 42]⟩, ⟨#[97, 32, 49, 32, 46, 32, 98, 32, 46]⟩, ⟨#[97, 32, 123, 48, 44, 50, 125]⟩, ⟨#[97, 32, 98, 32, 124, 32, 123, 49, 44, 51, 125]⟩, ⟨#[40, 41]⟩, ⟨#[33]⟩, ⟨#[97, 45, 32, 42, 32, 97, 32, 46]⟩, ⟨#[97, 32, 98, 45, 32, 46, 32, 42, 32, 99, 32, 124]⟩, ⟨#[97, 32, 42, 32, 97, 32, 42, 32, 46]⟩, ⟨#[97, 32, 48, 32, 124, 32, 42, 32, 98, 32, 46]⟩, ⟨#[97, 32, 97, 32, 46, 32, 42]⟩, ⟨#[97, 32, 98, 32, 46, 32, 98, 32, 97, 32, 46, 32, 124, 32, 42]⟩]
theorem known_le : ∀ s ∈ known, s.size ≤ 1000 := by
  have h : known.all (fun s => decide (s.size ≤ 1000)) = true := by decide
  intro s hs
  have := List.all_eq_true.1 h s hs
  simpa using this
set_option maxRecDepth 100000 in
set_option maxHeartbeats 1000000 in
theorem l8Known_any (g : Nat) (p : Nat → Prop) (w : World) (h : Cur w p g) (hp : ∀ b, p b → b < g) (hg : g < w.heap.size) :
    Calls Tryz.prog 84 #[.pointer (some ⟨g, 0, none⟩)] w fun e w' => SomeEx w w' p g 27 e := by
  have hpn : ∀ b, p b → b ≠ g := fun b hb e => by have := hp b hb; omega
  have hx : Sl ((w.alloc (.cells #[.slice none 0 0] 66)).alloc (.cells #[.string ⟨#[97]⟩, .string ⟨#[97, 32, 98, 32, 46]⟩, .string ⟨#[97, 32, 42]⟩, .string ⟨#[97, 32, 98, 32, 124, 32, 42]⟩, .string ⟨#[97, 32, 97, 45, 32, 46]⟩, .string ⟨#[97, 32, 42, 32, 98, 32, 46]⟩, .string ⟨#[97, 32, 98, 32, 42, 32, 46, 32, 99, 32, 46]⟩, .string ⟨#[97, 32, 97, 32, 124, 32, 42]⟩, .string ⟨#[97, 32, 98, 32, 46, 32, 42]⟩, .string ⟨#[48, 32, 97, 32, 46, 32, 42]⟩, .string ⟨#[97, 32, 49, 32, 46, 32, 98, 32, 46]⟩, .string ⟨#[97, 32, 123, 48, 44, 50, 125]⟩, .string ⟨#[97, 32, 98, 32, 124, 32, 123, 49, 44, 51, 125]⟩, .string ⟨#[40, 41]⟩, .string ⟨#[33]⟩, .string ⟨#[97, 45, 32, 42, 32, 97, 32, 46]⟩, .string ⟨#[97, 32, 98, 45, 32, 46, 32, 42, 32, 99, 32, 124]⟩, .string ⟨#[97, 32, 42, 32, 97, 32, 42, 32, 46]⟩, .string ⟨#[97, 32, 48, 32, 124, 32, 42, 32, 98, 32, 46]⟩, .string ⟨#[97, 32, 97, 32, 46, 32, 42]⟩, .string ⟨#[97, 32, 98, 32, 46, 32, 98, 32, 97, 32, 46, 32, 124, 32, 42]⟩] 9)) (· = w.heap.size + 1) 1 (some ⟨w.heap.size + 1, 0, none⟩) 21 (strs' known) :=
    sl_new (p := (· = w.heap.size + 1)) (w := w.alloc (.cells #[.slice none 0 0] 66)) (cs := #[.string ⟨#[97]⟩, .string ⟨#[97, 32, 98, 32, 46]⟩, .string ⟨#[97, 32, 42]⟩, .string ⟨#[97, 32, 98, 32, 124, 32, 42]⟩, .string ⟨#[97, 32, 97, 45, 32, 46]⟩, .string ⟨#[97, 32, 42, 32, 98, 32, 46]⟩, .string ⟨#[97, 32, 98, 32, 42, 32, 46, 32, 99, 32, 46]⟩, .string ⟨#[97, 32, 97, 32, 124, 32, 42]⟩, .string ⟨#[97, 32, 98, 32, 46, 32, 42]⟩, .string ⟨#[48, 32, 97, 32, 46, 32, 42]⟩, .string ⟨#[97, 32, 49, 32, 46, 32, 98, 32, 46]⟩, .string ⟨#[97, 32, 123, 48, 44, 50, 125]⟩, .string ⟨#[97, 32, 98, 32, 124, 32, 123, 49, 44, 51, 125]⟩, .string ⟨#[40, 41]⟩, .string ⟨#[33]⟩, .string ⟨#[97, 45, 32, 42, 32, 97, 32, 46]⟩, .string ⟨#[97, 32, 98, 45, 32, 46, 32, 42, 32, 99, 32, 124]⟩, .string ⟨#[97, 32, 42, 32, 97, 32, 42, 32, 46]⟩, .string ⟨#[97, 32, 48, 32, 124, 32, 42, 32, 98, 32, 46]⟩, .string ⟨#[97, 32, 97, 32, 46, 32, 42]⟩, .string ⟨#[97, 32, 98, 32, 46, 32, 98, 32, 97, 32, 46, 32, 124, 32, 42]⟩]) (t := 9) (n := 21) (size := 1) (g := w.heap.size + 1) (by simp) rfl (by decide) rfl
  have hb0 := below_alloc2 w (.cells #[.slice none 0 0] 66) (.cells #[.string ⟨#[97]⟩, .string ⟨#[97, 32, 98, 32, 46]⟩, .string ⟨#[97, 32, 42]⟩, .string ⟨#[97, 32, 98, 32, 124, 32, 42]⟩, .string ⟨#[97, 32, 97, 45, 32, 46]⟩, .string ⟨#[97, 32, 42, 32, 98, 32, 46]⟩, .string ⟨#[97, 32, 98, 32, 42, 32, 46, 32, 99, 32, 46]⟩, .string ⟨#[97, 32, 97, 32, 124, 32, 42]⟩, .string ⟨#[97, 32, 98, 32, 46, 32, 42]⟩, .string ⟨#[48, 32, 97, 32, 46, 32, 42]⟩, .string ⟨#[97, 32, 49, 32, 46, 32, 98, 32, 46]⟩, .string ⟨#[97, 32, 123, 48, 44, 50, 125]⟩, .string ⟨#[97, 32, 98, 32, 124, 32, 123, 49, 44, 51, 125]⟩, .string ⟨#[40, 41]⟩, .string ⟨#[33]⟩, .string ⟨#[97, 45, 32, 42, 32, 97, 32, 46]⟩, .string ⟨#[97, 32, 98, 45, 32, 46, 32, 42, 32, 99, 32, 124]⟩, .string ⟨#[97, 32, 42, 32, 97, 32, 42, 32, 46]⟩, .string ⟨#[97, 32, 48, 32, 124, 32, 42, 32, 98, 32, 46]⟩, .string ⟨#[97, 32, 97, 32, 46, 32, 42]⟩, .string ⟨#[97, 32, 98, 32, 46, 32, 98, 32, 97, 32, 46, 32, 124, 32, 42]⟩] 9)
  have hR := (Blk.new w 66 #[.slice none 0 0]).alloc (.cells #[.string ⟨#[97]⟩, .string ⟨#[97, 32, 98, 32, 46]⟩, .string ⟨#[97, 32, 42]⟩, .string ⟨#[97, 32, 98, 32, 124, 32, 42]⟩, .string ⟨#[97, 32, 97, 45, 32, 46]⟩, .string ⟨#[97, 32, 42, 32, 98, 32, 46]⟩, .string ⟨#[97, 32, 98, 32, 42, 32, 46, 32, 99, 32, 46]⟩, .string ⟨#[97, 32, 97, 32, 124, 32, 42]⟩, .string ⟨#[97, 32, 98, 32, 46, 32, 42]⟩, .string ⟨#[48, 32, 97, 32, 46, 32, 42]⟩, .string ⟨#[97, 32, 49, 32, 46, 32, 98, 32, 46]⟩, .string ⟨#[97, 32, 123, 48, 44, 50, 125]⟩, .string ⟨#[97, 32, 98, 32, 124, 32, 123, 49, 44, 51, 125]⟩, .string ⟨#[40, 41]⟩, .string ⟨#[33]⟩, .string ⟨#[97, 45, 32, 42, 32, 97, 32, 46]⟩, .string ⟨#[97, 32, 98, 45, 32, 46, 32, 42, 32, 99, 32, 124]⟩, .string ⟨#[97, 32, 42, 32, 97, 32, 42, 32, 46]⟩, .string ⟨#[97, 32, 48, 32, 124, 32, 42, 32, 98, 32, 46]⟩, .string ⟨#[97, 32, 97, 32, 46, 32, 42]⟩, .string ⟨#[97, 32, 98, 32, 46, 32, 98, 32, 97, 32, 46, 32, 124, 32, 42]⟩] 9)
  have hs0 : w.heap.size + 1 + 1 = ((w.alloc (.cells #[.slice none 0 0] 66)).alloc (.cells #[.string ⟨#[97]⟩, .string ⟨#[97, 32, 98, 32, 46]⟩, .string ⟨#[97, 32, 42]⟩, .string ⟨#[97, 32, 98, 32, 124, 32, 42]⟩, .string ⟨#[97, 32, 97, 45, 32, 46]⟩, .string ⟨#[97, 32, 42, 32, 98, 32, 46]⟩, .string ⟨#[97, 32, 98, 32, 42, 32, 46, 32, 99, 32, 46]⟩, .string ⟨#[97, 32, 97, 32, 124, 32, 42]⟩, .string ⟨#[97, 32, 98, 32, 46, 32, 42]⟩, .string ⟨#[48, 32, 97, 32, 46, 32, 42]⟩, .string ⟨#[97, 32, 49, 32, 46, 32, 98, 32, 46]⟩, .string ⟨#[97, 32, 123, 48, 44, 50, 125]⟩, .string ⟨#[97, 32, 98, 32, 124, 32, 123, 49, 44, 51, 125]⟩, .string ⟨#[40, 41]⟩, .string ⟨#[33]⟩, .string ⟨#[97, 45, 32, 42, 32, 97, 32, 46]⟩, .string ⟨#[97, 32, 98, 45, 32, 46, 32, 42, 32, 99, 32, 124]⟩, .string ⟨#[97, 32, 42, 32, 97, 32, 42, 32, 46]⟩, .string ⟨#[97, 32, 48, 32, 124, 32, 42, 32, 98, 32, 46]⟩, .string ⟨#[97, 32, 97, 32, 46, 32, 42]⟩, .string ⟨#[97, 32, 98, 32, 46, 32, 98, 32, 97, 32, 46, 32, 124, 32, 42]⟩] 9)).heap.size := by simp
  go_enter Tryz.func84, Tryz.ntmps84
  go_wp2_with fail
  refine (l1Pick_any g 21 _ _ known p _ _ (h.keep hb0) hpn hx (fun b hb => by have hb : b = w.heap.size + 1 := hb; omega) (by omega) (by omega)).mono ?_
  rintro e w1 ⟨s, rfl, hs, hd⟩
  have hd1 := (Drawn.of h hb0).trans hd
  have hR1 := hR.drawn hd (by omega)
  have HS := Lib.hid (known_le s hs)
  clear hx hR hs hs0 hd
  have hs1 := hd1.1.size
  go_wp2_with fail
  refine (ParseExpr_some s HS.out _).mono ?_
  rintro e w2 ⟨v2, ok, L2, rfl, hO2, hb2, hl2⟩
  have hR2 := hR1.below hb2 hR1.lt
  have hd2 := hd1.bel hb2
  obtain ⟨Au, cu, rfl, ho⟩ := hO2.form
  have q9 := hR2.cell 0; have z9 := hR2.frozen 0; have l9 := hR2.lt
  simp at q9
  have T := ((hR2.set_ 0 (.slice Au L2.length cu)).alloc (.cells #[.slice Au L2.length cu] 66)).cell 0
  simp at T
  go_wp2_with fail
  refine bodyPost_ret (v := .agg #[.slice Au L2.length cu]) (by simp [results, Tryz.results84, go_sem, T]) rfl ?_
  obtain ⟨v, L, e1, e2, e3, e4⟩ := SomeEx.fin (N := 27) hd2 hg hp hR2 ho rfl hs1 (by omega)
  exact ⟨v, L, e1, e2.below (below_alloc _ _), e3.bel (below_alloc _ _), e4⟩

set_option maxRecDepth 100000 in
set_option maxHeartbeats 1000000 in
theorem l8Expr_any (g : Nat) (p : Nat → Prop) (w : World) (h : Cur w p g) (hp : ∀ b, p b → b < g) (hg : g < w.heap.size) :
    Calls Tryz.prog 52 #[.pointer (some ⟨g, 0, none⟩)] w fun e w' => SomeEx w w' p g 27 e := by
  have hpn : ∀ b, p b → b ≠ g := fun b hb e => by have := hp b hb; omega
  have hR := Blk.new w 66 #[.slice none 0 0]
  go_enter Tryz.func52, Tryz.ntmps52
  go_wp2_with fail
  refine (l1Once_any g 2 p _ (h.keep (below_alloc w _)) hpn (by omega) (by omega)).mono ?_
  rintro e w1 ⟨r, rfl, hd⟩
  have hd1 : Drawn w w1 p g := (Drawn.of h (below_alloc w (.cells #[.slice none 0 0] 66))).trans hd
  have hR1 := hR.drawn hd (by omega)
  have hs1 := hd1.1.size
  have hg1 : g < w1.heap.size := by omega
  cases r with
  | true =>
    go_wp2_with fail
    refine (l8Known_any g p _ hd1.2 hp hg1).mono ?_
    rintro e w2 ⟨v2, L2, rfl, hO2, hd2, hl2⟩
    have hR2 := hR1.drawn hd2 (by omega)
    have hd12 := hd1.trans hd2
    obtain ⟨Au, cu, rfl, ho⟩ := hO2.form
    have q9 := hR2.cell 0; have z9 := hR2.frozen 0; have l9 := hR2.lt
    simp at q9
    go_wp2_with fail
    refine bodyPost_ret (v := .agg #[.slice Au L2.length cu]) (by simp [results, Tryz.results52, go_sem, q9]) rfl ?_
    exact SomeEx.fin hd12 hg hp hR2 ho rfl hs1 hl2
  | false =>
    go_wp2_with fail
    refine (l1Below_any g 3 p _ hd1.2 hpn (by omega) (by omega)).mono ?_
    rintro e w2 ⟨r2, rfl, hr2, hd2⟩
    obtain ⟨hh, hhe, hh3⟩ : ∃ hh : Nat, 1 + (r2 : Int) = hh ∧ hh ≤ 3 := ⟨1 + r2, by omega, by omega⟩
    have hd12 := hd1.trans hd2
    have hR2 := hR1.drawn hd2 (by omega)
    have hs2 := hd12.1.size
    have hg2 : g < w2.heap.size := by omega
    go_wp2_with fail
    refine (l8Make_any g p hp hh hh3 _ hd12.2 hg2).mono ?_
    rintro e w3 ⟨v3, L3, rfl, hO3, hd3, hl3⟩
    have hR3 := hR2.drawn hd3 (by omega)
    have hd13 := hd12.trans hd3
    have hl27 : L3.length ≤ 27 := Nat.le_trans hl3 (Nat.le_trans (Nat.pow_le_pow_right (by omega) hh3) (by decide))
    obtain ⟨Au, cu, rfl, ho⟩ := hO3.form
    have q9 := hR3.cell 0; have z9 := hR3.frozen 0; have l9 := hR3.lt
    simp at q9
    go_wp2_with fail
    refine bodyPost_ret (v := .agg #[.slice Au L3.length cu]) (by simp [results, Tryz.results52, go_sem, q9]) rfl ?_
    exact SomeEx.fin hd13 hg hp hR3 ho rfl hs2 hl27
end Go.Proofs.YtmnhpbbapkcdjaaGreat

/- Walks: l10Pos. -/
namespace Go.Proofs.YtmnhpbbapkcdjaaGreat
open Go.RowKit

/-- some positions, in memory of the call's own -/
def SomePos (w w' : World) (p : Nat → Prop) (g : Nat) (e : Ending) : Prop := ∃ v a, e = .returned v ∧ PosO w' w.heap.size v a ∧ Drawn w w' p g
section
variable {w wk : World} {p : Nat → Prop} {g base n m : Nat} {va vf : Value} {xs ys : List Int} {f l : Int} {nb : Bool}
theorem Drawn.set5 {v0 v1 v2 v3 v4 : Value} {R : Nat} (hD : Drawn w wk p g) (hg : g < w.heap.size) (hp : ∀ b, p b → b < g) (hR : w.heap.size ≤ R) :
    Drawn w (((((wk.setCell ⟨R, 0, none⟩ v0).setCell ⟨R, 1, none⟩ v1).setCell ⟨R, 2, none⟩ v2).setCell ⟨R, 3, none⟩ v3).setCell ⟨R, 4, none⟩ v4) p g := by
  have hr : ∀ b, some R = some b → w.heap.size ≤ b := fun b e => by injection e with e; omega
  exact ((((hD.grown (grown_set _ _ _ _) hg hp hr).grown (grown_set _ _ _ _) hg hp hr).grown (grown_set _ _ _ _) hg hp hr).grown (grown_set _ _ _ _) hg hp hr).grown (grown_set _ _ _ _) hg hp hr
theorem SomePos.fin {cs : Array Value} (hD : Drawn w wk p g) (hg : g < w.heap.size) (hp : ∀ b, p b → b < g) (hR : Blk wk w.heap.size 26 cs)
    (ha : wk.ownsRow base 3 1 va n (ints xs)) (hf : wk.ownsRow base 3 1 vf m (ints ys)) (hap : va.ownBlock = none ∨ va.ownBlock ≠ vf.ownBlock) (hb : w.heap.size ≤ base) :
    SomePos w (((((wk.setCell ⟨w.heap.size, 0, none⟩ va).setCell ⟨w.heap.size, 1, none⟩ (.int .i64 f)).setCell ⟨w.heap.size, 2, none⟩ (.int .i64 l)).setCell ⟨w.heap.size, 3, none⟩ vf).setCell ⟨w.heap.size, 4, none⟩ (.bool nb)) p g (.returned (.agg #[va, .int .i64 f, .int .i64 l, vf, .bool nb])) := by
  have hx : xs.length = n := by have := ha.1; simpa [ints] using this
  have hy : ys.length = m := by have := hf.1; simpa [ints] using this
  subst hx hy
  exact ⟨_, ⟨xs, f, l, ys, nb⟩, rfl, ⟨va, vf, rfl, own_mono (own_set5 ha hR (by decide)) hb, own_mono (own_set5 hf hR (by decide)) hb, hap⟩, hD.set5 hg hp (Nat.le_refl _)⟩
end
theorem own_drawn' {w w' : World} {p : Nat → Prop} {g base size n : Nat} {e : TypeId} {v : Value} {ys : List Value} (h : w.ownsRow base e size v n ys) (hd : Drawn w w' p g) (hgb : g < base) : w'.ownsRow base e size v n ys := own_drawn h hd.1 hgb

set_option maxRecDepth 100000 in
set_option maxHeartbeats 4000000 in
theorem l10Pos_any (g : Nat) (p : Nat → Prop) (w : World) (h : Cur w p g) (hp : ∀ b, p b → b < g) (hg : g < w.heap.size) :
    Calls Tryz.prog 25 #[.pointer (some ⟨g, 0, none⟩)] w fun e w' => SomePos w w' p g e := by
  have hpn : ∀ b, p b → b ≠ g := fun b hb e => by have := hp b hb; omega
  have hR := Blk.new w 26 #[.slice none 0 0, .int .i64 0, .int .i64 0, .slice none 0 0, .bool false]
  go_enter Tryz.func25, Tryz.ntmps25
  go_wp2_with fail
  refine (l8Expr_any g p _ (h.keep (below_alloc w _)) hp (by simp; omega)).mono ?_
  rintro e w1 ⟨v1, L, rfl, hO, hdr, hl⟩
  have hd1 : Drawn w w1 p g := (Drawn.of h (below_alloc w (.cells #[.slice none 0 0, .int .i64 0, .int .i64 0, .slice none 0 0, .bool false] 26))).trans hdr
  have hR1 := hR.drawn hdr (by omega)
  have hs1 := hd1.1.size
  obtain ⟨A1, c1, rfl, _⟩ := id hO.form
  go_wp2_with fail
  refine (BuildPositions_any L _ _ _ hO.exc).mono ?_
  rintro e w2 ⟨v2, ok, a, rfl, hPO, hb2, hfl, hn20⟩
  have hd2 := hd1.bel hb2
  have hR2 := hR1.below hb2 hR1.lt
  obtain ⟨va, vf, rfl, ha, hf, hap⟩ := hPO
  obtain ⟨A5, c5, rfl⟩ := own_form ha
  obtain ⟨A6, c6, rfl⟩ := own_form hf
  have hX := Blk.new w2 26 #[.slice A5 a.n c5, .int .i64 a.first, .int .i64 a.last, .slice A6 a.follow.length c6, .bool a.nullable]
  have ha3 := own_mono (own_below ha (below_alloc w2 (.cells #[.slice A5 a.n c5, .int .i64 a.first, .int .i64 a.last, .slice A6 a.follow.length c6, .bool a.nullable] 26))) hs1
  have hf3 := own_mono (own_below hf (below_alloc w2 (.cells #[.slice A5 a.n c5, .int .i64 a.first, .int .i64 a.last, .slice A6 a.follow.length c6, .bool a.nullable] 26))) hs1
  have hR3 := hR2.alloc (.cells #[.slice A5 a.n c5, .int .i64 a.first, .int .i64 a.last, .slice A6 a.follow.length c6, .bool a.nullable] 26)
  have hd3 := hd2.bel (below_alloc w2 (.cells #[.slice A5 a.n c5, .int .i64 a.first, .int .i64 a.last, .slice A6 a.follow.length c6, .bool a.nullable] 26))
  have hx2 : w.heap.size < w2.heap.size := hR2.lt
  obtain ⟨W3, hW3⟩ : ∃ W3, W3 = w2.alloc (.cells #[.slice A5 a.n c5, .int .i64 a.first, .int .i64 a.last, .slice A6 a.follow.length c6, .bool a.nullable] 26) := ⟨_, rfl⟩
  have hs3 : w2.heap.size + 1 = W3.heap.size := by rw [hW3]; simp
  have han : a.n ≤ 1000000 := by omega
  clear hfl hn20
  generalize a.n = n at *
  generalize a.follow.length = m at *
  generalize a.first = f at *
  generalize a.last = l at *
  generalize a.nullable = nb at *
  go_wp2_with fail
  rw [← hW3] at hX ha3 hf3 hR3 hd3 ⊢
  clear hW3 ha hf hR2 hd2
  refine (l1Below_any g 14 p _ hd3.2 hpn (by omega) (by omega)).mono ?_
  rintro e w4 ⟨r, rfl, hr, hdr4⟩
  have hX4 := hX.drawn hdr4 (by omega)
  have hR4 := hR3.drawn hdr4 (by omega)
  have ha4 := own_drawn' ha3 hdr4 hg
  have hf4 := own_drawn' hf3 hdr4 hg
  have hd4 := hd3.trans hdr4
  have hs4 := hdr4.1.size
  clear hX ha3 hf3 hR3 hd3
  have x0 := hX4.cell 0; have x1 := hX4.cell 1; have x2 := hX4.cell 2; have x3 := hX4.cell 3; have x4 := hX4.cell 4
  have r0 := hR4.cell 0; have r1 := hR4.cell 1; have r2 := hR4.cell 2; have r3 := hR4.cell 3; have r4 := hR4.cell 4
  have z0 := hR4.frozen 0; have z1 := hR4.frozen 1; have z2 := hR4.frozen 2; have z3 := hR4.frozen 3; have z4 := hR4.frozen 4
  have y0 := hX4.frozen 0; have y1 := hX4.frozen 1; have y4 := hX4.frozen 4
  have lR := hR4.lt; have lX := hX4.lt
  simp at x0 x1 x2 x3 x4 r0 r1 r2 r3 r4
  by_cases h0 : r = 0
  · subst h0
    have hx : Sl (w4.alloc (.cells #[.int .i64 (-1), .int .i64 1, .int .i64 1048576] 3)) (· = w4.heap.size) 1 (some ⟨w4.heap.size, 0, none⟩) 3 (ints [-1, 1, 1048576]) :=
      sl_new (p := (· = w4.heap.size)) (w := w4) (cs := #[.int .i64 (-1), .int .i64 1, .int .i64 1048576]) (t := 3) (n := 3) (size := 1) (g := w4.heap.size) rfl rfl (by decide) rfl
    go_wp2_with fail
    refine (l1PickInt_any g 3 _ _ _ p _ _ (hd4.2.keep (below_alloc w4 _)) hpn hx (fun b hb => by have hb : b = w4.heap.size := hb; omega) (by omega) (by omega)).mono ?_
    rintro e w5 ⟨x, rfl, _, hdr5⟩
    have hX5 := ((hX4.alloc (.cells #[.int .i64 (-1), .int .i64 1, .int .i64 1048576] 3)).drawn hdr5 (by omega))
    have hR5 := ((hR4.alloc (.cells #[.int .i64 (-1), .int .i64 1, .int .i64 1048576] 3)).drawn hdr5 (by omega))
    have ha5 := own_drawn' (own_below ha4 (below_alloc w4 (.cells #[.int .i64 (-1), .int .i64 1, .int .i64 1048576] 3))) hdr5 hg
    have hf5 := own_drawn' (own_below hf4 (below_alloc w4 (.cells #[.int .i64 (-1), .int .i64 1, .int .i64 1048576] 3))) hdr5 hg
    have hd5 := (hd4.bel (below_alloc w4 (.cells #[.int .i64 (-1), .int .i64 1, .int .i64 1048576] 3))).trans hdr5
    have x0' := hX5.cell 0; have x1' := hX5.cell 1; have x2' := hX5.cell 2; have x3' := hX5.cell 3; have x4' := hX5.cell 4
    have z0' := hR5.frozen 0; have z1' := hR5.frozen 1; have z2' := hR5.frozen 2; have z3' := hR5.frozen 3; have z4' := hR5.frozen 4
    have y1' := hX5.frozen 1
    have q0' := hR5.cell 0; have q1' := hR5.cell 1; have q2' := hR5.cell 2; have q3' := hR5.cell 3; have q4' := hR5.cell 4
    have lR' := hR5.lt; have lX' := hX5.lt
    simp at x0' x1' x2' x3' x4' q0' q1' q2' q3' q4'
    have hR6 := hR5.set_ne (g' := w2.heap.size) (i := 1) (by omega) (.int .i64 x)
    have T := hR6.set5r (v0 := .slice A5 n c5) (v1 := .int .i64 x) (v2 := .int .i64 l) (v3 := .slice A6 m c6) (v4 := .bool nb)
    have t0 := T.cell 0; have t1 := T.cell 1; have t2 := T.cell 2; have t3 := T.cell 3; have t4 := T.cell 4
    simp at t0 t1 t2 t3 t4
    go_wp2_with fail
    refine bodyPost_ret (v := .agg #[.slice A5 n c5, .int .i64 x, .int .i64 l, .slice A6 m c6, .bool nb]) (by simp [results, Tryz.results25, go_sem, t0, t1, t2, t3, t4]) rfl ?_
    exact SomePos.fin (hd5.grown (grown_set _ _ _ _) hg hp (fun b e => by injection e with e; omega)) hg hp hR6 (own_set ha5 hX5 (by decide) 1 _) (own_set hf5 hX5 (by decide) 1 _) hap (Nat.le_refl _)
  · by_cases h1 : r = 1
    · subst h1
      clear h0
      have hws : w.heap.size ≤ w4.heap.size := hd4.1.size
      go_wp2_with (at_builtin; refine wpList_app1 elInt rfl (.tmp 22) (.tmp 23) rfl w.heap.size (.slice A5 n c5) n (ints a.letters) rfl ha4 #[.int .i64 0] _ rfl (by simp) rfl (by simp [Value.oneCell']) (by omega) (by omega) hws ?_; intro g6 c7 w6 ho6 hg6 hb6 _ _; have hX6 := hX4.grown hg6 (own_blk_ne ha4 hX4 (by decide)); have hR6 := hR4.grown hg6 (own_blk_ne ha4 hR4 (by decide)); have hf6 := hf4.kept hg6 (apart_symm hap); have hd6 := hd4.grown hg6 hg hp (own_ge ha4); have z0' := hR6.frozen 0; have z1' := hR6.frozen 1; have z2' := hR6.frozen 2; have z3' := hR6.frozen 3; have z4' := hR6.frozen 4; have q0' := hR6.cell 0; have q1' := hR6.cell 1; have q2' := hR6.cell 2; have q3' := hR6.cell 3; have q4' := hR6.cell 4; have lR' := hR6.lt; have lX' := hX6.lt; have y0' := hX6.frozen 0; have x0' := hX6.cell 0; have x1' := hX6.cell 1; have x2' := hX6.cell 2; have x3' := hX6.cell 3; have x4' := hX6.cell 4; simp at x0' x1' x2' x3' x4' q0' q1' q2' q3' q4')
      have hap6 : (Value.slice (some ⟨g6, 0, none⟩) (n + 1) c7).ownBlock = none ∨ (Value.slice (some ⟨g6, 0, none⟩) (n + 1) c7).ownBlock ≠ (Value.slice A6 m c6).ownBlock := by
        right
        intro e
        rcases hb6 with hb6 | hb6
        · rcases hap with h1 | h1
          · rw [hb6] at h1; cases h1
          · exact h1 (hb6.trans e)
        · have := (hf4.lt g6 e.symm).2; omega
      have hR7 := hR6.set_ne (g' := w2.heap.size) (i := 0) (by omega) (.slice (some ⟨g6, 0, none⟩) (n + 1) c7)
      have T := hR7.set5r (v0 := .slice (some ⟨g6, 0, none⟩) (n + 1) c7) (v1 := .int .i64 f) (v2 := .int .i64 l) (v3 := .slice A6 m c6) (v4 := .bool nb)
      have t0 := T.cell 0; have t1 := T.cell 1; have t2 := T.cell 2; have t3 := T.cell 3; have t4 := T.cell 4
      simp at t0 t1 t2 t3 t4
      refine bodyPost_ret (v := .agg #[.slice (some ⟨g6, 0, none⟩) (n + 1) c7, .int .i64 f, .int .i64 l, .slice A6 m c6, .bool nb]) (by simp [results, Tryz.results25, go_sem, t0, t1, t2, t3, t4]) rfl ?_
      refine SomePos.fin (xs := a.letters ++ [0]) (hd6.grown (grown_set _ _ _ _) hg hp (fun b e => by injection e with e; omega)) hg hp hR7 (own_set (by rw [← ints_snoc]; exact ho6) hX6 (by decide) 0 _) (own_set hf6 hX6 (by decide) 0 _) hap6 (Nat.le_refl _)
    · by_cases h2 : r = 2
      · subst h2
        clear h0 h1
        have hR6 := hR4.set_ne (g' := w2.heap.size) (i := 4) (by omega) (.bool (!nb))
        have T := hR6.set5r (v0 := .slice A5 n c5) (v1 := .int .i64 f) (v2 := .int .i64 l) (v3 := .slice A6 m c6) (v4 := .bool (!nb))
        have t0 := T.cell 0; have t1 := T.cell 1; have t2 := T.cell 2; have t3 := T.cell 3; have t4 := T.cell 4
        simp at t0 t1 t2 t3 t4
        go_wp2_with fail
        refine bodyPost_ret (v := .agg #[.slice A5 n c5, .int .i64 f, .int .i64 l, .slice A6 m c6, .bool (!nb)]) (by simp [results, Tryz.results25, go_sem, t0, t1, t2, t3, t4]) rfl ?_
        exact SomePos.fin (hd4.grown (grown_set _ _ _ _) hg hp (fun b e => by injection e with e; omega)) hg hp hR6 (own_set ha4 hX4 (by decide) 4 _) (own_set hf4 hX4 (by decide) 4 _) hap (Nat.le_refl _)
      · have T := hR4.set5r (v0 := .slice A5 n c5) (v1 := .int .i64 f) (v2 := .int .i64 l) (v3 := .slice A6 m c6) (v4 := .bool nb)
        have t0 := T.cell 0; have t1 := T.cell 1; have t2 := T.cell 2; have t3 := T.cell 3; have t4 := T.cell 4
        simp at t0 t1 t2 t3 t4
        have i0 : ((r : Int) == 0) = false := by simp; omega
        have i1 : ((r : Int) == 1) = false := by simp; omega
        have i2 : ((r : Int) == 2) = false := by simp; omega
        clear h0 h1 h2 hr
        go_wp2_with fail
        refine bodyPost_ret (v := .agg #[.slice A5 n c5, .int .i64 f, .int .i64 l, .slice A6 m c6, .bool nb]) (by simp [results, Tryz.results25, go_sem, t0, t1, t2, t3, t4]) rfl ?_
        exact SomePos.fin hd4 hg hp hR4 ha4 hf4 hap (Nat.le_refl _)
end Go.Proofs.YtmnhpbbapkcdjaaGreat
