/- Positions that are being built. Walk: l10Link; Walk: l10Build. No condition. -/
import Derived.Test.YtmnhpbbapkcdjaaGreatA11

/- Positions that are being built. Walk: l10Link. -/
namespace Go.Proofs.YtmnhpbbapkcdjaaGreat
open Go.RowKit

/-- block gp holds positions that are being built, n letters, in blocks from gp on -/
def PB (gp n : Nat) (w : World) : Prop :=
  ∃ va vf xs ys f l nb, Blk w gp 26 #[va, .int .i64 f, .int .i64 l, vf, .bool nb] ∧ w.ownsRow gp 3 1 va n (ints xs) ∧ w.ownsRow gp 3 1 vf n (ints ys) ∧ (va.ownBlock = none ∨ va.ownBlock ≠ vf.ownBlock)
theorem PB.below {gp n : Nat} {w w' : World} (h : PB gp n w) (hb : Below w.heap.size w w') : PB gp n w' := by
  obtain ⟨va, vf, xs, ys, f, l, nb, h1, h2, h3, h4⟩ := h
  exact ⟨va, vf, xs, ys, f, l, nb, h1.below hb h1.lt, own_below h2 hb, own_below h3 hb, h4⟩
theorem PB.lt {gp n : Nat} {w : World} (h : PB gp n w) : gp < w.heap.size := by
  obtain ⟨va, vf, xs, ys, f, l, nb, h1, _⟩ := h
  exact h1.lt
theorem PB.drewN {gp n : Nat} {w : World} (h : PB gp n w) (d : Nat) : PB gp n (w.drewN d) := h
theorem ints_set (xs : List Int) (i : Nat) (x : Int) : (ints xs).set i (.int .i64 x) = ints (xs.set i x) := by simp [ints]

/-- only blocks of numbers from gp on, and block gp, have changed -/
def Fr (gp : Nat) (w w' : World) : Prop := Below gp w w' ∧ ∀ g t cs, Blk w g t cs → t ≠ 3 → g ≠ gp → Blk w' g t cs
theorem Fr.refl (gp : Nat) (w : World) : Fr gp w w := ⟨Below.refl _ _, fun _ _ _ h _ _ => h⟩
theorem Fr.trans {gp : Nat} {w w' w'' : World} (h : Fr gp w w') (k : Fr gp w' w'') : Fr gp w w'' := ⟨h.1.trans k.1, fun g t cs hB ht hg => k.2 g t cs (h.2 g t cs hB ht hg) ht hg⟩
theorem Fr.of {gp : Nat} {w w' : World} (hb : Below w.heap.size w w') (hg : gp ≤ w.heap.size) : Fr gp w w' := ⟨hb.mono hg, fun g t cs h _ _ => h.below hb h.lt⟩
theorem Fr.grown {gp size n : Nat} {w w' : World} {v : Value} {xs : List Value} (h : w.ownsRow gp 3 size v n xs) (hg : w.grownBy w' v.ownBlock) (hl : gp ≤ w.heap.size) : Fr gp w w' :=
  ⟨(Below.refl gp w).grown hg hl (own_ge h), fun g t cs hB ht _ => hB.grown hg (own_blk_ne h hB (Ne.symm ht))⟩
theorem Fr.set_ (w : World) (gp i : Nat) (u : Value) : Fr gp w (w.setCell ⟨gp, i, none⟩ u) :=
  ⟨below_set (Below.refl _ _) (Nat.le_refl _) _ _, fun g t cs hB _ hne => hB.set_ne hne u⟩
theorem Fr.drew (gp : Nat) (w : World) : Fr gp w w.drew := ⟨(Below.refl _ _).drew, fun _ _ _ h _ _ => h⟩

set_option maxRecDepth 100000 in
set_option maxHeartbeats 1000000 in
theorem l10Link_any (gp n : Nat) (from_ to_ : Int) (w : World) (h : PB gp n w) (hn : n ≤ 1000000) :
    Calls Tryz.prog 96 #[.pointer (some ⟨gp, 0, none⟩), .int .i64 from_, .int .i64 to_] w fun e w' => e = .returned (.tuple #[]) ∧ PB gp n w' ∧ Fr gp w w' := by
  go_enter Tryz.func96, Tryz.ntmps96
  go_wp2_with fail
  go_loopw [6] (fun iv wr => ∃ k : Nat, k ≤ n ∧ iv = .int .i64 k ∧ PB gp n wr ∧ Fr gp w wr) (fun iv _ => n - (intOf iv).toNat)
  case atStart => exact ⟨0, by omega, rfl, h, Fr.refl _ _⟩
  case round =>
    clear h
    obtain ⟨k, hk, rfl, hP, hb⟩ := hrel
    obtain ⟨va, vf, xs, ys, f, l, nb, hB, hva, hvf, hne⟩ := id hP
    by_cases hlt : k < n
    · have hki : (k : Int) < (n : Int) := by omega
      obtain ⟨g, c, rfl, hgg, hgl⟩ := hvf.form (by omega)
      have f3 := hB.cell 3
      simp at f3
      have hyl : ys.length = n := by have := hvf.1; simpa [ints] using this
      have cy := own_int_at hvf hlt
      generalize ys[k]?.getD 0 = y at *
      by_cases hbit : (bits BinOp.and IntKind.i64 (from_ / 2 ^ min k 64) 1 == 1) = true
      · go_upto_region 4 with fail
        have hS0 : (fun w' : World => w'.cell? ⟨gp, 3, none⟩ = some (.slice (some ⟨g, 0, none⟩) n c) ∧ w'.cell? ⟨g, k, none⟩ = some (.int .i64 y)) wr.drew := ⟨f3, cy⟩
        refine wp_region_X (fun w' : World => w'.cell? ⟨gp, 3, none⟩ = some (.slice (some ⟨g, 0, none⟩) n c) ∧ w'.cell? ⟨g, k, none⟩ = some (.int .i64 y)) 15 (by kernel_rfl) ?_
        (refine wpX_take (i := 0) (v := ?_) (by simp only [List.getElem?_toArray, List.getElem?_cons_succ, List.getElem?_cons_zero]; rfl) (by kernel_rfl) (by kernel_rfl) (by kernel_rfl) (by kernel_rfl) (by exact fun _ _ _ h => h) (Or.inl ⟨by rfl, ?_⟩) (by assumption) ?_; rotate_left; (intro w hSw; (try dsimp only at hSw); go_simp); (try with_reducible rfl); (try simp only [Act.put, List.setIfInBounds_toArray, List.set_cons_zero, List.set_cons_succ]))
        (refine wpX_take (i := 1) (v := ?_) (by simp only [List.getElem?_toArray, List.getElem?_cons_succ, List.getElem?_cons_zero]; rfl) (by kernel_rfl) (by kernel_rfl) (by kernel_rfl) (by kernel_rfl) (by exact fun _ _ _ h => h) (Or.inl ⟨by rfl, ?_⟩) (by assumption) ?_; rotate_left; (intro w hSw; (try dsimp only at hSw); go_simp); (try with_reducible rfl); (try simp only [Act.put, List.setIfInBounds_toArray, List.set_cons_zero, List.set_cons_succ]))
        (refine wpX_take (i := 2) (v := ?_) (by simp only [List.getElem?_toArray, List.getElem?_cons_succ, List.getElem?_cons_zero]; rfl) (by kernel_rfl) (by kernel_rfl) (by kernel_rfl) (by kernel_rfl) (by exact fun _ _ _ h => h) (Or.inl ⟨by rfl, ?_⟩) (by assumption) ?_; rotate_left; (intro w hSw; (try dsimp only at hSw); go_simp); (try with_reducible rfl); (try simp only [Act.put, List.setIfInBounds_toArray, List.set_cons_zero, List.set_cons_succ]))
        (refine wpX_take (i := 3) (v := ?_) (by simp only [List.getElem?_toArray, List.getElem?_cons_succ, List.getElem?_cons_zero]; rfl) (by kernel_rfl) (by kernel_rfl) (by kernel_rfl) (by kernel_rfl) (by exact fun _ _ _ h => h) (Or.inl ⟨by rfl, ?_⟩) (by assumption) ?_; rotate_left; (intro w hSw; (try dsimp only at hSw); go_simp); (try with_reducible rfl); (try simp only [Act.put, List.setIfInBounds_toArray, List.set_cons_zero, List.set_cons_succ]))
        (refine wpX_take (i := 4) (v := ?_) (by simp only [List.getElem?_toArray, List.getElem?_cons_succ, List.getElem?_cons_zero]; rfl) (by kernel_rfl) (by kernel_rfl) (by kernel_rfl) (by kernel_rfl) (by exact fun _ _ _ h => h) (Or.inl ⟨by rfl, ?_⟩) (by assumption) ?_; rotate_left; (intro w hSw; (try dsimp only at hSw); go_simp); (try with_reducible rfl); (try simp only [Act.put, List.setIfInBounds_toArray, List.set_cons_zero, List.set_cons_succ]))
        (refine wpX_take (i := 5) (v := ?_) (by simp only [List.getElem?_toArray, List.getElem?_cons_succ, List.getElem?_cons_zero]; rfl) (by kernel_rfl) (by kernel_rfl) (by kernel_rfl) (by kernel_rfl) (by exact fun _ _ _ h => h) (Or.inl ⟨by rfl, ?_⟩) (by assumption) ?_; rotate_left; (intro w hSw; (try dsimp only at hSw); go_simp); (try with_reducible rfl); (try simp only [Act.put, List.setIfInBounds_toArray, List.set_cons_zero, List.set_cons_succ]))
        (refine wpX_take (i := 6) (v := ?_) (by simp only [List.getElem?_toArray, List.getElem?_cons_succ, List.getElem?_cons_zero]; rfl) (by kernel_rfl) (by kernel_rfl) (by kernel_rfl) (by kernel_rfl) (by exact fun _ _ _ h => h) (Or.inl ⟨by rfl, ?_⟩) (by assumption) ?_; rotate_left; (intro w hSw; (try dsimp only at hSw); go_simp); (try with_reducible rfl); (try simp only [Act.put, List.setIfInBounds_toArray, List.set_cons_zero, List.set_cons_succ]))
        (refine wpX_take (i := 7) (v := ?_) (by simp only [List.getElem?_toArray, List.getElem?_cons_succ, List.getElem?_cons_zero]; rfl) (by kernel_rfl) (by kernel_rfl) (by kernel_rfl) (by kernel_rfl) (by exact fun _ _ _ h => h) (Or.inl ⟨by rfl, ?_⟩) (by assumption) ?_; rotate_left; (intro w hSw; (try dsimp only at hSw); go_simp); (try with_reducible rfl); (try simp only [Act.put, List.setIfInBounds_toArray, List.set_cons_zero, List.set_cons_succ]))
        (refine wpX_take (i := 8) (v := ?_) (by simp only [List.getElem?_toArray, List.getElem?_cons_succ, List.getElem?_cons_zero]; rfl) (by kernel_rfl) (by kernel_rfl) (by kernel_rfl) (by kernel_rfl) (by exact fun _ _ _ h => h) (Or.inl ⟨by rfl, ?_⟩) (by assumption) ?_; rotate_left; (intro w hSw; (try dsimp only at hSw); go_simp); (try with_reducible rfl); (try simp only [Act.put, List.setIfInBounds_toArray, List.set_cons_zero, List.set_cons_succ]))
        (refine wpX_take (i := 9) (v := ?_) (by simp only [List.getElem?_toArray, List.getElem?_cons_succ, List.getElem?_cons_zero]; rfl) (by kernel_rfl) (by kernel_rfl) (by kernel_rfl) (by kernel_rfl) (by exact fun _ _ _ h => h) (Or.inl ⟨by rfl, ?_⟩) (by assumption) ?_; rotate_left; (intro w hSw; (try dsimp only at hSw); go_simp); (try with_reducible rfl); (try simp only [Act.put, List.setIfInBounds_toArray, List.set_cons_zero, List.set_cons_succ]))
        (refine wpX_take (i := 10) (v := ?_) (by simp only [List.getElem?_toArray, List.getElem?_cons_succ, List.getElem?_cons_zero]; rfl) (by kernel_rfl) (by kernel_rfl) (by kernel_rfl) (by kernel_rfl) (by exact fun _ _ _ h => h) (Or.inl ⟨by rfl, ?_⟩) (by assumption) ?_; rotate_left; (intro w hSw; (try dsimp only at hSw); go_simp); (try with_reducible rfl); (try simp only [Act.put, List.setIfInBounds_toArray, List.set_cons_zero, List.set_cons_succ]))
        (refine wpX_take (i := 11) (v := ?_) (by simp only [List.getElem?_toArray, List.getElem?_cons_succ, List.getElem?_cons_zero]; rfl) (by kernel_rfl) (by kernel_rfl) (by kernel_rfl) (by kernel_rfl) (by exact fun _ _ _ h => h) (Or.inl ⟨by rfl, ?_⟩) (by assumption) ?_; rotate_left; (intro w hSw; (try dsimp only at hSw); go_simp); (try with_reducible rfl); (try simp only [Act.put, List.setIfInBounds_toArray, List.set_cons_zero, List.set_cons_succ]))
        (refine wpX_take (i := 12) (v := ?_) (by simp only [List.getElem?_toArray, List.getElem?_cons_succ, List.getElem?_cons_zero]; rfl) (by kernel_rfl) (by kernel_rfl) (by kernel_rfl) (by kernel_rfl) (by exact fun _ _ _ h => h) (Or.inl ⟨by rfl, ?_⟩) (by assumption) ?_; rotate_left; (intro w hSw; (try dsimp only at hSw); go_simp); (try with_reducible rfl); (try simp only [Act.put, List.setIfInBounds_toArray, List.set_cons_zero, List.set_cons_succ]))
        (refine wpX_take (i := 13) (v := ?_) (by simp only [List.getElem?_toArray, List.getElem?_cons_succ, List.getElem?_cons_zero]; rfl) (by kernel_rfl) (by kernel_rfl) (by kernel_rfl) (by kernel_rfl) (by exact fun _ _ _ h => h) (Or.inl ⟨by rfl, ?_⟩) (by assumption) ?_; rotate_left; (intro w hSw; (try dsimp only at hSw); go_simp); (try with_reducible rfl); (try simp only [Act.put, List.setIfInBounds_toArray, List.set_cons_zero, List.set_cons_succ]))
        (refine wpX_take (i := 14) (v := ?_) (by simp only [List.getElem?_toArray, List.getElem?_cons_succ, List.getElem?_cons_zero]; rfl) (by kernel_rfl) (by kernel_rfl) (by kernel_rfl) (by kernel_rfl) (by exact fun _ _ _ h => h) (Or.inl ⟨by rfl, ?_⟩) (by assumption) ?_; rotate_left; (intro w hSw; (try dsimp only at hSw); go_simp); (try with_reducible rfl); (try simp only [Act.put, List.setIfInBounds_toArray, List.set_cons_zero, List.set_cons_succ]))
        have z3 := hvf.frozenAt k
        refine wpX_one (i := 15) (by kernel_rfl) (by simp only [List.getElem?_toArray, List.getElem?_cons_succ, List.getElem?_cons_zero]; rfl) (fun K hK => ?_)
        go_simp
        (refine hK.out _ _ (Or.inl rfl) ?_; clear hK; (try simp only [Act.put, List.setIfInBounds_toArray, List.set_cons_zero, List.set_cons_succ]))
        refine wpX_done (by kernel_rfl) ?_ _
        have ho := hvf.stored k (.int .i64 (bits BinOp.or IntKind.i64 y to_))
        go_wp2_with fail
        have hPn0 : PB gp n (wr.setCell ⟨g, k, none⟩ (.int .i64 (bits BinOp.or IntKind.i64 y to_))) := by
          refine ⟨va, _, xs, ys.set k _, f, l, nb, hB.grown ho.2 (own_blk_ne hvf hB (by decide)), hva.kept ho.2 ?_, by rw [← ints_set]; exact ho.1, hne⟩
          rcases hne with h | h
          · exact .inl h
          · exact .inr h
        have hPn : PB gp n ((wr.setCell ⟨g, k, none⟩ (.int .i64 (bits BinOp.or IntKind.i64 y to_))).drew) := hPn0
        have hbn : Fr gp w ((wr.setCell ⟨g, k, none⟩ (.int .i64 (bits BinOp.or IntKind.i64 y to_))).drew) := (hb.trans (Fr.grown hvf ho.2 (by have := hB.lt; omega))).trans (Fr.drew _ _)
        go_roundw
        case rel => exact ⟨k + 1, by omega, by go_num, hPn, hbn⟩
        case measure => simp [intOf]; omega
      · have hbit' : (bits BinOp.and IntKind.i64 (from_ / 2 ^ min k 64) 1 == 1) = false := by simpa using hbit
        go_wp2
        go_roundw
        case rel => exact ⟨k + 1, by omega, by go_num, hP, hb⟩
        case measure => simp [intOf]; omega
    · have hki : ¬ (k : Int) < (n : Int) := by omega
      obtain ⟨A, c, rfl⟩ := own_form hvf
      have f3 := hB.cell 3
      simp at f3
      go_wp2
      go_end0
      exact ⟨rfl, hP, hb⟩
end Go.Proofs.YtmnhpbbapkcdjaaGreat

/- Walk: l10Build. -/
namespace Go.Proofs.YtmnhpbbapkcdjaaGreat
open Go.RowKit

def cntL : List Tk → Nat
  | [] => 0
  | t :: L => (if t.k = 3 then 1 else 0) + cntL L
theorem cntL_app : ∀ L M : List Tk, cntL (L ++ M) = cntL L + cntL M
  | [], M => by simp [cntL]
  | t :: L, M => by simp [cntL, cntL_app L M]; omega
structure PBS (gp n m : Nat) (w : World) (va vf : Value) (xs ys : List Int) (f l : Int) (nb : Bool) : Prop where
  blk : Blk w gp 26 #[va, .int .i64 f, .int .i64 l, vf, .bool nb]
  a : w.ownsRow gp 3 1 va n (ints xs)
  f : w.ownsRow gp 3 1 vf m (ints ys)
  ne : va.ownBlock = none ∨ va.ownBlock ≠ vf.ownBlock
section
variable {gp n m : Nat} {w w' : World} {va vf : Value} {xs ys : List Int} {f l : Int} {nb : Bool}
theorem PBS.pb (h : PBS gp n n w va vf xs ys f l nb) : PB gp n w := ⟨va, vf, xs, ys, f, l, nb, h.blk, h.a, h.f, h.ne⟩
theorem PBS.below (h : PBS gp n m w va vf xs ys f l nb) (hb : Below w.heap.size w w') : PBS gp n m w' va vf xs ys f l nb :=
  ⟨h.blk.below hb h.blk.lt, own_below h.a hb, own_below h.f hb, h.ne⟩
theorem PBS.drew (h : PBS gp n m w va vf xs ys f l nb) : PBS gp n m w.drew va vf xs ys f l nb := ⟨h.blk, h.a, h.f, h.ne⟩
theorem apart_symm {a b : Option Nat} (h : a = none ∨ a ≠ b) : b = none ∨ b ≠ a := by
  rcases h with rfl | h
  · cases b <;> simp
  · exact .inr (Ne.symm h)
theorem PBS.pushL {g c : Nat} {u : Int} (h : PBS gp n m w va vf xs ys f l nb) (ho : w'.ownsRow gp 3 1 (.slice (some ⟨g, 0, none⟩) (n + 1) c) (n + 1) (ints xs ++ [.int .i64 u])) (hg : w.grownBy w' va.ownBlock) (hb : va.ownBlock = some g ∨ w.heap.size < g) :
    PBS gp (n + 1) m (w'.setCell ⟨gp, 0, none⟩ (.slice (some ⟨g, 0, none⟩) (n + 1) c)) (.slice (some ⟨g, 0, none⟩) (n + 1) c) vf (xs ++ [u]) ys f l nb := by
  have hB := h.blk.grown hg (own_blk_ne h.a h.blk (by decide))
  have hf := h.f.kept hg (apart_symm h.ne)
  refine ⟨by have := hB.set_ 0 (.slice (some ⟨g, 0, none⟩) (n + 1) c); simpa using this, own_set (by rw [← ints_snoc]; exact ho) hB (by decide) 0 _, own_set hf hB (by decide) 0 _, .inr ?_⟩
  intro e
  rcases hb with hb | hb
  · rcases h.ne with h1 | h1
    · rw [hb] at h1; cases h1
    · exact h1 (hb.trans e)
  · have := (h.f.lt g e.symm).2; omega
theorem PBS.pushF {g c : Nat} {u : Int} (h : PBS gp n m w va vf xs ys f l nb) (ho : w'.ownsRow gp 3 1 (.slice (some ⟨g, 0, none⟩) (m + 1) c) (m + 1) (ints ys ++ [.int .i64 u])) (hg : w.grownBy w' vf.ownBlock) (hb : vf.ownBlock = some g ∨ w.heap.size < g) :
    PBS gp n (m + 1) (w'.setCell ⟨gp, 3, none⟩ (.slice (some ⟨g, 0, none⟩) (m + 1) c)) va (.slice (some ⟨g, 0, none⟩) (m + 1) c) xs (ys ++ [u]) f l nb := by
  have hB := h.blk.grown hg (own_blk_ne h.f h.blk (by decide))
  have ha := h.a.kept hg h.ne
  refine ⟨by have := hB.set_ 3 (.slice (some ⟨g, 0, none⟩) (m + 1) c); simpa using this, own_set ha hB (by decide) 3 _, own_set (by rw [← ints_snoc]; exact ho) hB (by decide) 3 _, ?_⟩
  rcases h.ne with h1 | h1
  · exact .inl h1
  · rcases hb with hb | hb
    · exact .inr (by rw [hb] at h1; exact h1)
    · right
      intro e
      have := (h.a.lt g e).2; omega
end
def BPost (gp n : Nat) (a : Tr) (w : World) (e : Ending) (w' : World) : Prop :=
  ∃ b f l n', e = .returned (.agg #[.bool b, .int .i64 f, .int .i64 l]) ∧ PB gp n' w' ∧ Fr gp w w' ∧ n' ≤ n + cntL a.flat

theorem PB.part3 {gp n g : Nat} {w : World} {cs : Array Value} {x y z : Value} (h : PB gp n w) (hR : Blk w g 91 cs) : PB gp n (((w.setCell ⟨g, 0, none⟩ x).setCell ⟨g, 1, none⟩ y).setCell ⟨g, 2, none⟩ z) := by
  have step : ∀ {w : World} {cs : Array Value} {i : Nat} {u : Value}, PB gp n w → Blk w g 91 cs → PB gp n (w.setCell ⟨g, i, none⟩ u) := fun {w cs i u} h hR => by
    obtain ⟨va, vf, xs, ys, f, l, nb, h1, h2, h3, h4⟩ := h
    exact ⟨va, vf, xs, ys, f, l, nb, h1.set_ne (h1.ne_ hR (by decide)) u, own_set h2 hR (by decide) i u, own_set h3 hR (by decide) i u, h4⟩
  exact step (step (step h hR) (hR.set_ 0 x)) ((hR.set_ 0 x).set_ 1 y)
/-- the result's block is the call's own -/
theorem Fr.part3 {gp g : Nat} {w w1 : World} {x y z : Value} (h : Fr gp w w1) (hg : w.heap.size ≤ g) (hgp : gp < g) : Fr gp w (((w1.setCell ⟨g, 0, none⟩ x).setCell ⟨g, 1, none⟩ y).setCell ⟨g, 2, none⟩ z) :=
  ⟨below_set (below_set (below_set h.1 (by omega) _ _) (by omega) _ _) (by omega) _ _, fun g' t cs hB ht hne => by
    have hl := hB.lt
    exact (((h.2 g' t cs hB ht hne).set_ne (by omega) _).set_ne (by omega) _).set_ne (by omega) _⟩

set_option maxRecDepth 100000 in
set_option maxHeartbeats 1000000 in
theorem bld_none (gp n : Nat) (l lo hi : Int) (A : Option Addr) (c : Nat) (p : Nat → Prop) (w : World) (h : Tks w p A [⟨1, l, lo, hi⟩]) (hP : PB gp n w) :
    Calls Tryz.prog 82 #[.pointer (some ⟨gp, 0, none⟩), .slice A 1 c] w fun e w' => BPost gp n (.lf ⟨1, l, lo, hi⟩) w e w' := by
  obtain ⟨b, off, rfl, _, _, c0, c1, c2, c3⟩ := Tks.last (L := []) h
  simp at c0 c1 c2 c3
  have hlt := hP.lt
  go_enter Tryz.func82, Tryz.ntmps82
  go_wp2
  refine bodyPost_ret (v := .agg #[.bool false, .int .i64 0, .int .i64 0]) (by simp [results, Tryz.results82, go_sem]) rfl ?_
  exact ⟨_, _, _, n, rfl, hP.below (below_alloc2 w _ _), Fr.of (below_alloc2 w _ _) (by omega), by omega⟩
set_option maxRecDepth 100000 in
set_option maxHeartbeats 1000000 in
theorem bld_empty (gp n : Nat) (l lo hi : Int) (A : Option Addr) (c : Nat) (p : Nat → Prop) (w : World) (h : Tks w p A [⟨2, l, lo, hi⟩]) (hP : PB gp n w) :
    Calls Tryz.prog 82 #[.pointer (some ⟨gp, 0, none⟩), .slice A 1 c] w fun e w' => BPost gp n (.lf ⟨2, l, lo, hi⟩) w e w' := by
  obtain ⟨b, off, rfl, _, _, c0, c1, c2, c3⟩ := Tks.last (L := []) h
  simp at c0 c1 c2 c3
  have hlt := hP.lt
  go_enter Tryz.func82, Tryz.ntmps82
  go_wp2
  refine bodyPost_ret (v := .agg #[.bool true, .int .i64 0, .int .i64 0]) (by simp [results, Tryz.results82, go_sem]) rfl ?_
  exact ⟨_, _, _, n, rfl, hP.below (below_alloc2 w _ _), Fr.of (below_alloc2 w _ _) (by omega), by omega⟩
set_option maxRecDepth 100000 in
set_option maxHeartbeats 1000000 in
theorem bld_letter (gp n : Nat) (hn : n ≤ 100000) (l lo hi : Int) (A : Option Addr) (c : Nat) (p : Nat → Prop) (w : World) (h : Tks w p A [⟨3, l, lo, hi⟩]) (hP : PB gp n w) :
    Calls Tryz.prog 82 #[.pointer (some ⟨gp, 0, none⟩), .slice A 1 c] w fun e w' => BPost gp n (.lf ⟨3, l, lo, hi⟩) w e w' := by
  obtain ⟨b, off, rfl, _, _, c0, c1, c2, c3⟩ := Tks.last (L := []) h
  simp at c0 c1 c2 c3
  have hlt := hP.lt
  obtain ⟨va, vf, xs, ys, ff, fl, nb, hB, hva, hvf, hne⟩ := hP
  have hS : PBS gp n n w va vf xs ys ff fl nb := ⟨hB, hva, hvf, hne⟩
  obtain ⟨Aa, ca, rfl⟩ := own_form hva
  obtain ⟨Af, cf, rfl⟩ := own_form hvf
  have hS0 := hS.below (below_alloc2 w (.cells #[.bool false, .int .i64 0, .int .i64 0] 91) (.cells #[.int .i64 3, .int .i64 l, .int .i64 lo, .int .i64 hi] 89))
  have hR := (Blk.new w 91 #[.bool false, .int .i64 0, .int .i64 0]).alloc (.cells #[.int .i64 3, .int .i64 l, .int .i64 lo, .int .i64 hi] 89)
  have hT := blk2 w (.cells #[.bool false, .int .i64 0, .int .i64 0] 91) 89 #[.int .i64 3, .int .i64 l, .int .i64 lo, .int .i64 hi]
  obtain ⟨W0, hW0⟩ : ∃ W0, W0 = (w.alloc (.cells #[.bool false, .int .i64 0, .int .i64 0] 91)).alloc (.cells #[.int .i64 3, .int .i64 l, .int .i64 lo, .int .i64 hi] 89) := ⟨_, rfl⟩
  have hb0 : Below w.heap.size w W0 := by rw [hW0]; exact below_alloc2 w _ _
  have hs0 : w.heap.size + 1 + 1 = W0.heap.size := by rw [hW0]; simp
  have g0 := hB.cell 0
  simp at g0
  clear hS hva hvf hne hB
  go_enter Tryz.func82, Tryz.ntmps82
  go_upto_region 8 with fail
  rw [← hW0] at hS0 hR hT ⊢
  clear hW0
  have p0 := hS0.blk.cell 0
  have t1 := hT.cell 1
  simp at p0 t1
  have hSD : (fun w' : World => w'.cell? ⟨gp, 0, none⟩ = some (.slice Aa n ca) ∧ w'.cell? ⟨w.heap.size + 1, 1, none⟩ = some (.int .i64 l)) W0.drew := ⟨p0, t1⟩
  refine wp_region_X (fun w' : World => w'.cell? ⟨gp, 0, none⟩ = some (.slice Aa n ca) ∧ w'.cell? ⟨w.heap.size + 1, 1, none⟩ = some (.int .i64 l)) 11 (by kernel_rfl) ?_
  (refine wpX_take (i := 0) (v := ?_) (by simp only [List.getElem?_toArray, List.getElem?_cons_succ, List.getElem?_cons_zero]; rfl) (by kernel_rfl) (by kernel_rfl) (by kernel_rfl) (by kernel_rfl) (by exact fun _ _ _ h => h) (Or.inl ⟨by rfl, ?_⟩) (by assumption) ?_; rotate_left; (intro w hSw; (try dsimp only at hSw); go_simp); (try with_reducible rfl); (try simp only [Act.put, List.setIfInBounds_toArray, List.set_cons_zero, List.set_cons_succ]))
  (refine wpX_take (i := 1) (v := ?_) (by simp only [List.getElem?_toArray, List.getElem?_cons_succ, List.getElem?_cons_zero]; rfl) (by kernel_rfl) (by kernel_rfl) (by kernel_rfl) (by kernel_rfl) (by exact fun _ _ _ h => h) (Or.inl ⟨by rfl, ?_⟩) (by assumption) ?_; rotate_left; (intro w hSw; (try dsimp only at hSw); go_simp); (try with_reducible rfl); (try simp only [Act.put, List.setIfInBounds_toArray, List.set_cons_zero, List.set_cons_succ]))
  (refine wpX_take (i := 2) (v := ?_) (by simp only [List.getElem?_toArray, List.getElem?_cons_succ, List.getElem?_cons_zero]; rfl) (by kernel_rfl) (by kernel_rfl) (by kernel_rfl) (by kernel_rfl) (by exact fun _ _ _ h => h) (Or.inl ⟨by rfl, ?_⟩) (by assumption) ?_; rotate_left; (intro w hSw; (try dsimp only at hSw); go_simp); (try with_reducible rfl); (try simp only [Act.put, List.setIfInBounds_toArray, List.set_cons_zero, List.set_cons_succ]))
  (refine wpX_take (i := 3) (v := ?_) (by simp only [List.getElem?_toArray, List.getElem?_cons_succ, List.getElem?_cons_zero]; rfl) (by kernel_rfl) (by kernel_rfl) (by kernel_rfl) (by kernel_rfl) (by exact fun _ _ _ h => h) (Or.inl ⟨by rfl, ?_⟩) (by assumption) ?_; rotate_left; (intro w hSw; (try dsimp only at hSw); go_simp); (try with_reducible rfl); (try simp only [Act.put, List.setIfInBounds_toArray, List.set_cons_zero, List.set_cons_succ]))
  (refine wpX_take (i := 4) (v := ?_) (by simp only [List.getElem?_toArray, List.getElem?_cons_succ, List.getElem?_cons_zero]; rfl) (by kernel_rfl) (by kernel_rfl) (by kernel_rfl) (by kernel_rfl) (by exact fun _ _ _ h => h) (Or.inl ⟨by rfl, ?_⟩) (by assumption) ?_; rotate_left; (intro w hSw; (try dsimp only at hSw); go_simp); (try with_reducible rfl); (try simp only [Act.put, List.setIfInBounds_toArray, List.set_cons_zero, List.set_cons_succ]))
  (refine wpX_take (i := 5) (v := ?_) (by simp only [List.getElem?_toArray, List.getElem?_cons_succ, List.getElem?_cons_zero]; rfl) (by kernel_rfl) (by kernel_rfl) (by kernel_rfl) (by kernel_rfl) (by exact fun _ _ _ h => h) (Or.inl ⟨by rfl, ?_⟩) (by assumption) ?_; rotate_left; (intro w hSw; (try dsimp only at hSw); go_simp); (try with_reducible rfl); (try simp only [Act.put, List.setIfInBounds_toArray, List.set_cons_zero, List.set_cons_succ]))
  (refine wpX_take (i := 6) (v := ?_) (by simp only [List.getElem?_toArray, List.getElem?_cons_succ, List.getElem?_cons_zero]; rfl) (by kernel_rfl) (by kernel_rfl) (by kernel_rfl) (by kernel_rfl) (by exact fun _ _ _ h => h) (Or.inl ⟨by rfl, ?_⟩) (by assumption) ?_; rotate_left; (intro w hSw; (try dsimp only at hSw); go_simp); (try with_reducible rfl); (try simp only [Act.put, List.setIfInBounds_toArray, List.set_cons_zero, List.set_cons_succ]))
  refine wpX_one (i := 7) (by kernel_rfl) (by simp only [List.getElem?_toArray, List.getElem?_cons_succ, List.getElem?_cons_zero]; rfl) (fun K hK => ?_)
  go_simp
  have hbD : Below W0.heap.size W0 (W0.drew.alloc (.cells #[.int .i64 l] 3)) := (Below.refl _ _).drew.alloc (Nat.le_refl _) _
  have s7 : (fun w' : World => w'.cell? ⟨gp, 0, none⟩ = some (.slice Aa n ca) ∧ w'.cell? ⟨w.heap.size + 1, 1, none⟩ = some (.int .i64 l)) (W0.drew.alloc (.cells #[.int .i64 l] 3)) := ⟨(hS0.below hbD).blk.cell 0, (hT.below hbD hT.lt).cell 1⟩
  (refine hK.out _ _ (Or.inr s7) ?_; clear hK; (try simp only [Act.put, List.setIfInBounds_toArray, List.set_cons_zero, List.set_cons_succ]))
  refine wpX_one (i := 8) (by kernel_rfl) (by simp only [List.getElem?_toArray, List.getElem?_cons_succ, List.getElem?_cons_zero]; rfl) (fun K hK => ?_)
  refine step_app1 elInt (by rfl) (.tmp 40) (.tmp 43) (by rfl) gp _ n (ints xs) (by rfl) hS0.drew.a #[.int .i64 l] _ (by rfl) (by simp) rfl (by simp [Value.oneCell']) (by omega) (by omega) (by simp; omega) ?_
  intro g6 c6 w6 ho6 hg6 hb6 _ _
  have hS6 := hS0.drew.pushL ho6 hg6 hb6
  have hB6 := hS0.drew.blk.grown hg6 (own_blk_ne hS0.drew.a hS0.drew.blk (by decide))
  have hT6 := hT.grown (w := W0.drew) hg6 (own_blk_ne hS0.drew.a (show Blk W0.drew _ _ _ from hT) (by decide))
  have hR6 := hR.grown (w := W0.drew) hg6 (own_blk_ne hS0.drew.a (show Blk W0.drew _ _ _ from hR) (by decide))
  have s8 : (fun w' : World => w'.cell? ⟨gp, 0, none⟩ = some (.slice Aa n ca) ∧ w'.cell? ⟨w.heap.size + 1, 1, none⟩ = some (.int .i64 l)) w6 := ⟨hB6.cell 0, hT6.cell 1⟩
  have hb6' : Fr gp W0 w6 := (Fr.drew gp W0).trans (Fr.grown hS0.drew.a hg6 (by simp; omega))
  have z6 := hB6.frozen 0
  have l6 := hB6.lt
  have q6 := hB6.cell 0
  simp at q6
  (refine hK.out _ _ (Or.inr s8) ?_; clear hK; (try simp only [Act.put, List.setIfInBounds_toArray, List.set_cons_zero, List.set_cons_succ]))
  refine wpX_one (i := 9) (by kernel_rfl) (by simp only [List.getElem?_toArray, List.getElem?_cons_succ, List.getElem?_cons_zero]; rfl) (fun K hK => ?_)
  go_simp
  (refine hK.out _ _ (Or.inr s8) ?_; clear hK; (try simp only [Act.put, List.setIfInBounds_toArray, List.set_cons_zero, List.set_cons_succ]))
  refine wpX_one (i := 10) (by kernel_rfl) (by simp only [List.getElem?_toArray, List.getElem?_cons_succ, List.getElem?_cons_zero]; rfl) (fun K hK => ?_)
  go_simp
  (refine hK.out _ _ (Or.inr s8) ?_; clear hK; (try simp only [Act.put, List.setIfInBounds_toArray, List.set_cons_zero, List.set_cons_succ]))
  refine wpX_one (i := 11) (by kernel_rfl) (by simp only [List.getElem?_toArray, List.getElem?_cons_succ, List.getElem?_cons_zero]; rfl) (fun K hK => ?_)
  go_simp
  (refine hK.out _ _ (Or.inl rfl) ?_; clear hK; (try simp only [Act.put, List.setIfInBounds_toArray, List.set_cons_zero, List.set_cons_succ]))
  refine wpX_done (by kernel_rfl) ?_ _
  have p3 := hS6.blk.cell 3
  simp at p3
  have hR7 := hR6.set_ne (g' := gp) (i := 0) (by omega) (.slice (some ⟨g6, 0, none⟩) (n + 1) c6)
  have hb7 := ((Fr.of hb0 (by omega)).trans hb6').trans (Fr.set_ w6 gp 0 (.slice (some ⟨g6, 0, none⟩) (n + 1) c6))
  have hsz7 : gp ≤ (w6.setCell ⟨gp, 0, none⟩ (.slice (some ⟨g6, 0, none⟩) (n + 1) c6)).heap.size := by simp; omega
  clear ho6 hg6 hb6 s8 s7 hSD p0 t1 g0 hT6 hT
  go_wp2_with (at_builtin; refine wpList_app1 elInt rfl (.tmp 51) (.tmp 52) rfl gp _ n (ints ys) rfl hS6.f #[.int .i64 0] _ rfl (by simp) rfl (by simp [Value.oneCell']) (by omega) (by omega) hsz7 ?_; intro g8 c8 w8 ho8 hg8 hb8 _ _; have hS8 := hS6.pushF ho8 hg8 hb8; have hb8' := (hb7.trans (Fr.grown hS6.f hg8 hsz7)).trans (Fr.set_ w8 gp 3 (.slice (some ⟨g8, 0, none⟩) (n + 1) c8)); have hB8 := hS6.blk.grown hg8 (own_blk_ne hS6.f hS6.blk (by decide)); have q8 := hB8.cell 3; have z8 := hB8.frozen 3; have l8 := hB8.lt; simp at q8; have hR8 := hR7.grown hg8 (own_blk_ne hS6.f hR7 (by decide)); have hR9 := hR8.set_ne (g' := gp) (i := 3) (by omega) (.slice (some ⟨g8, 0, none⟩) (n + 1) c8); have r0 := hR9.cell 0; have r1 := hR9.cell 1; have r2 := hR9.cell 2; have zr0 := hR9.frozen 0; have zr1 := hR9.frozen 1; have zr2 := hR9.frozen 2; simp at r0 r1 r2; have l9 := hR9.lt)
  refine bodyPost_ret (v := .agg #[.bool false, .int .i64 (wrap64 (2 ^ min n 64)), .int .i64 (wrap64 (2 ^ min n 64))]) (by simp [results, Tryz.results82, go_sem, r0, r1, r2]) rfl ?_
  exact ⟨_, _, _, n + 1, rfl, hS8.pb.part3 hR9, hb8'.part3 (Nat.le_refl _) hlt, by simp [Tr.flat, cntL]⟩
end Go.Proofs.YtmnhpbbapkcdjaaGreat
