/- Walks: the automaton that accepts nothing; States numbered as they are found, one for each class (plain). No condition. -/
import Derived.Test.YtmnhpbbapkcdjaaGreatA04
import Derived.Deep.DeepCutAuto
import Derived.Laws.CopyOwn

/- Walks: the automaton that accepts nothing. -/
namespace Go.Proofs.YtmnhpbbapkcdjaaGreat
open Go.RowKit

def minus9 : List Int := [-1, -1, -1, -1, -1, -1, -1, -1, -1]
def nothingAut : Aut := ⟨0, [false], [minus9]⟩
theorem rep_snoc (k : Nat) : List.replicate (k + 1) (-1 : Int) = List.replicate k (-1) ++ [-1] := by rw [List.replicate_succ']

set_option maxRecDepth 100000 in
theorem l11Nothing_any (w : World) : Calls Tryz.prog 73 #[] w fun e w' => AutRes w w' nothingAut e := by
  go_enter Tryz.func73, Tryz.ntmps73
  go_wp2_with fail
  go_loopw [1, 2] (fun v kv wr => ∃ k g c, k ≤ 9 ∧ kv = .int .i64 (k : Nat) ∧ v = .slice (some ⟨g, 0, none⟩) k c ∧ wr.ownsRow (w.heap.size + 1) 3 1 v k (ints (List.replicate k (-1))) ∧ Below (w.heap.size + 1) (w.alloc (.cells #[.int .i64 0, .slice none 0 0, .slice none 0 0] 31)) wr) (fun _ k _ => 9 - (intOf k).toNat)
  case atStart => exact ⟨0, _, _, by omega, rfl, rfl, own0 (by simp) (by omega), (Below.refl _ _).alloc (by simp) _⟩
  case round =>
    obtain ⟨k, g, c, hk, rfl, rfl, ho, hb⟩ := hrel
    have hbs : w.heap.size + 1 ≤ wr.heap.size := by have := hb.size; simp at this; omega
    by_cases hk9 : k < 9
    · have HS := Lib.hid (rep_snoc k)
      go_wp2_with (at_builtin; refine wpList_app1 elInt rfl (.tmp 8) (.tmp 9) rfl (w.heap.size + 1) _ k _ rfl ho #[.int .i64 (-1)] _ rfl (by simp) rfl (by simp [Value.oneCell']) (by omega) (by omega) hbs ?_; intro g4 c4 w4 ho4 hg4 _ _ _; have hb4 := hb.grown hg4 hbs (own_ge ho))
      go_roundw
      case rel => exact ⟨k + 1, g4, c4, by omega, by go_num, rfl, by rw [HS.out, ← ints_snoc]; exact ho4, hb4⟩
      case measure => simp [intOf]; omega
    · obtain rfl : k = 9 := by omega
      have hRB : Blk wr w.heap.size 31 #[.int .i64 0, .slice none 0 0, .slice none 0 0] := (Blk.new w _ _).below hb (by omega)
      have q0 := hRB.cell 0; have q1 := hRB.cell 1; have q2 := hRB.cell 2
      simp at q0 q1 q2
      have z0 := hRB.frozen 0; have z1 := hRB.frozen 1; have z2 := hRB.frozen 2
      have hlt := hRB.lt
      have hF := ((hRB.set3 (x' := .int .i64 0) (y' := .slice (some ⟨wr.heap.size, 0, none⟩) 1 1) (z' := .slice (some ⟨wr.heap.size + 1, 0, none⟩) 1 1)).alloc (.cells #[.bool false] 4)).alloc (.cells #[.slice (some ⟨g, 0, none⟩) 9 c] 24)
      have t0 := hF.cell 0; have t1 := hF.cell 1; have t2 := hF.cell 2
      clear hF
      go_wp2
      refine bodyPost_ret (v := .agg #[.int .i64 0, .slice (some ⟨wr.heap.size, 0, none⟩) 1 1, .slice (some ⟨wr.heap.size + 1, 0, none⟩) 1 1]) (by simp [results, Tryz.results73, go_sem, t0, t1, t2]) rfl ?_
      refine ⟨_, rfl, ⟨_, 1, 1, _, 1, 1, rfl, ?_, ?_⟩, ?_⟩
      · have h1 := sl_new (p := (w.heap.size ≤ ·)) (w := ((wr.setCell ⟨w.heap.size, 0, none⟩ (.int .i64 0)).setCell ⟨w.heap.size, 1, none⟩ (.slice (some ⟨wr.heap.size, 0, none⟩) 1 1)).setCell ⟨w.heap.size, 2, none⟩ (.slice (some ⟨wr.heap.size + 1, 0, none⟩) 1 1)) (cs := #[.bool false]) (t := 4) (n := 1) (size := 1) (g := wr.heap.size) (by simp) (by omega) (by decide) rfl
        exact h1.al _
      · have h1 := sl_new (p := (w.heap.size ≤ ·)) (w := (((wr.setCell ⟨w.heap.size, 0, none⟩ (.int .i64 0)).setCell ⟨w.heap.size, 1, none⟩ (.slice (some ⟨wr.heap.size, 0, none⟩) 1 1)).setCell ⟨w.heap.size, 2, none⟩ (.slice (some ⟨wr.heap.size + 1, 0, none⟩) 1 1)).alloc (.cells #[.bool false] 4)) (cs := #[.slice (some ⟨g, 0, none⟩) 9 c]) (t := 24) (n := 1) (size := 1) (g := wr.heap.size + 1) (by simp) (by omega) (by decide) rfl
        have ho2 : Sl wr (w.heap.size + 1 ≤ ·) 1 (some ⟨g, 0, none⟩) 9 (ints minus9) := Sl.of_own ho (fun b hb => own_ge ho b hb)
        have h2 := (((ho2.set_ (a := ⟨w.heap.size, 0, none⟩) (.int .i64 0) (fun b hb => by have hb : w.heap.size + 1 ≤ b := hb; simp; omega)).set_ (a := ⟨w.heap.size, 1, none⟩) (.slice (some ⟨wr.heap.size, 0, none⟩) 1 1) (fun b hb => by have hb : w.heap.size + 1 ≤ b := hb; simp; omega)).set_ (a := ⟨w.heap.size, 2, none⟩) (.slice (some ⟨wr.heap.size + 1, 0, none⟩) 1 1) (fun b hb => by have hb : w.heap.size + 1 ≤ b := hb; simp; omega))
        refine ⟨_, h1, rfl, fun j r hj => ?_⟩
        have hj0 : j = 0 := by have := (List.getElem?_eq_some_iff.1 hj).1; simp [nothingAut] at this; omega
        subst hj0
        simp only [nothingAut, List.getElem?_cons_zero, Option.some.injEq] at hj
        subst hj
        exact ⟨_, c, rfl, ((h2.al _).al _).weak (fun b hb _ => by have hb : w.heap.size + 1 ≤ b := hb; show w.heap.size ≤ b; omega)⟩
      · exact ((((((below_alloc w _).trans (hb.mono (by omega))).setCell (by simp) _).setCell (by simp) _).setCell (by simp) _).alloc (by simp; omega) _).alloc (by simp; omega) _

theorem mul_any (w : World) : Calls Tryz.prog 102 #[.int .u64 1, .int .u64 9] w fun e w' => e = .returned (.tuple #[.int .u64 0, .int .u64 9]) ∧ w = w' := by
  go_enter Tryz.func102, Tryz.ntmps102
  go_wp2
  go_ret2
  exact ⟨rfl, rfl⟩

/-- a block of nine cells, the first n of them -1 -/
def Nine (w : World) (g n : Nat) : Prop := Hid (w.heap[g]? = some (.cells ((List.replicate n (Value.int .i64 (-1))) ++ List.replicate (9 - n) (Value.int .i64 0)).toArray 3 (0, 0)))
theorem Nine.at_ {w : World} {g n : Nat} (h : Nine w g n) (hn : n ≤ 9) : ∀ j v, (List.replicate n (Value.int .i64 (-1)))[j]? = some v → w.cell? ((⟨g, 0, none⟩ : Addr).add j) = some v := by
  intro j v hj
  obtain ⟨hjn, hv⟩ := List.getElem?_eq_some_iff.1 hj
  simp at hjn hv
  subst hv
  have : (⟨g, 0, none⟩ : Addr).add j = ⟨g, j, none⟩ := by unfold Addr.add; split <;> simp_all
  rw [this, cell_of_row w g j _ _ (0, 0) h.out]
  simp [List.getElem?_append_left, hjn]

set_option maxRecDepth 100000 in
theorem repeat_any (b : Nat) (w : World) (hc : w.cell? ⟨b, 0, none⟩ = some (.int .i64 (-1))) (hb : b < w.heap.size) :
    Calls Tryz.prog 88 #[.slice (some ⟨b, 0, none⟩) 1 1, .int .i64 9] w fun e w' => e = .returned (.slice (some ⟨w.heap.size, 0, none⟩) 9 9) ∧ Nine w' w.heap.size 9 ∧ Below w.heap.size w w' := by
  have hmk : ∀ w, (Instr.makeSlice 24 (.int .i64 9) (.int .i64 9)).run Tryz.prog w = .ok (.slice (some ⟨w.heap.size, 0, none⟩) 9 9) (w.alloc (.cells (List.replicate 9 (Value.int .i64 0)).toArray 3)) := fun _ => by kernel_rfl
  go_enter Tryz.func88, Tryz.ntmps88
  go_wp2_with (first
    | (go_at_call 102; refine (mul_any _).mono ?_; rintro e w' ⟨rfl, rfl⟩)
    | (refine wpList_copy_splice rfl (.tmp 31) (.tmp 32) 24 24 rfl 3 Tryz.underlying24 (by kernel_rfl) (some ⟨w.heap.size, 0, none⟩) (some ⟨b, 0, none⟩) 9 9 1 1 rfl rfl w.heap.size 0 (List.replicate 9 (Value.int .i64 0)) 3 (heap_alloc_new w _) [.int .i64 (-1)] (by decide) (fun _ => ⟨rfl, _, rfl, fun j v hj => by have hj0 : j = 0 := by { have := (List.getElem?_eq_some_iff.1 hj).1; simp at this; omega }; subst hj0; simp at hj; subst hj; rw [← hc]; exact World.cell?_of_block (Below.heap_alloc w _ b hb)⟩) (by decide) (by simp [Value.oneCell']) w.heap.size w (below_alloc w _) (Nat.le_refl _) ?_; intro w1 hg1 hb1; have hN1 : Nine w1 w.heap.size 1 := hg1; clear hg1))
  go_loopw [8] (fun nv wr => ∃ n : Nat, (n = 1 ∨ n = 2 ∨ n = 4 ∨ n = 8 ∨ n = 9) ∧ nv = .int .i64 n ∧ Nine wr w.heap.size n ∧ Below w.heap.size w wr) (fun nv _ => 9 - (intOf nv).toNat)
  case atStart => exact ⟨1, .inl rfl, rfl, hN1, hb1⟩
  case round =>
    obtain ⟨n, hn, rfl, hN, hbr⟩ := hrel
    clear hN1 hb1 hmk
    by_cases h9 : n = 9
    · subst h9
      go_wp2
      go_ret
      exact ⟨rfl, hN, hbr⟩
    · rcases hn with rfl | rfl | rfl | rfl | rfl
      · have hsrc := hN.at_ (by omega)
        have hN0 := hN.out
        clear h9
        go_wp2_with fail
        have hS0 : (fun _ : World => True) wr.drew := trivial
        refine wp_region_X (fun _ : World => True) 9 (by kernel_rfl) ?_
        (refine wpX_take (i := 0) (v := ?_) (by simp only [List.getElem?_toArray, List.getElem?_cons_succ, List.getElem?_cons_zero]; rfl) (by kernel_rfl) (by kernel_rfl) (by kernel_rfl) (by kernel_rfl) (by exact fun _ _ _ h => h) (Or.inl ⟨by rfl, ?_⟩) (by assumption) ?_; rotate_left; (intro w hSw; (try dsimp only at hSw); go_simp); (try with_reducible rfl); (try simp only [Act.put, List.setIfInBounds_toArray, List.set_cons_zero, List.set_cons_succ]))
        (refine wpX_take (i := 1) (v := ?_) (by simp only [List.getElem?_toArray, List.getElem?_cons_succ, List.getElem?_cons_zero]; rfl) (by kernel_rfl) (by kernel_rfl) (by kernel_rfl) (by kernel_rfl) (by exact fun _ _ _ h => h) (Or.inl ⟨by rfl, ?_⟩) (by assumption) ?_; rotate_left; (intro w hSw; (try dsimp only at hSw); go_simp); (try with_reducible rfl); (try simp only [Act.put, List.setIfInBounds_toArray, List.set_cons_zero, List.set_cons_succ]))
        (refine wpX_take (i := 2) (v := ?_) (by simp only [List.getElem?_toArray, List.getElem?_cons_succ, List.getElem?_cons_zero]; rfl) (by kernel_rfl) (by kernel_rfl) (by kernel_rfl) (by kernel_rfl) (by exact fun _ _ _ h => h) (Or.inl ⟨by rfl, ?_⟩) (by assumption) ?_; rotate_left; (intro w hSw; (try dsimp only at hSw); go_simp); (try with_reducible rfl); (try simp only [Act.put, List.setIfInBounds_toArray, List.set_cons_zero, List.set_cons_succ]))
        (refine wpX_take (i := 3) (v := ?_) (by simp only [List.getElem?_toArray, List.getElem?_cons_succ, List.getElem?_cons_zero]; rfl) (by kernel_rfl) (by kernel_rfl) (by kernel_rfl) (by kernel_rfl) (by exact fun _ _ _ h => h) (Or.inl ⟨by rfl, ?_⟩) (by assumption) ?_; rotate_left; (intro w hSw; (try dsimp only at hSw); go_simp); (try with_reducible rfl); (try simp only [Act.put, List.setIfInBounds_toArray, List.set_cons_zero, List.set_cons_succ]))
        (refine wpX_take (i := 4) (v := ?_) (by simp only [List.getElem?_toArray, List.getElem?_cons_succ, List.getElem?_cons_zero]; rfl) (by kernel_rfl) (by kernel_rfl) (by kernel_rfl) (by kernel_rfl) (by exact fun _ _ _ h => h) (Or.inl ⟨by rfl, ?_⟩) (by assumption) ?_; rotate_left; (intro w hSw; (try dsimp only at hSw); go_simp); (try with_reducible rfl); (try simp only [Act.put, List.setIfInBounds_toArray, List.set_cons_zero, List.set_cons_succ]))
        (refine wpX_take (i := 5) (v := ?_) (by simp only [List.getElem?_toArray, List.getElem?_cons_succ, List.getElem?_cons_zero]; rfl) (by kernel_rfl) (by kernel_rfl) (by kernel_rfl) (by kernel_rfl) (by exact fun _ _ _ h => h) (Or.inl ⟨by rfl, ?_⟩) (by assumption) ?_; rotate_left; (intro w hSw; (try dsimp only at hSw); go_simp); (try with_reducible rfl); (try simp only [Act.put, List.setIfInBounds_toArray, List.set_cons_zero, List.set_cons_succ]))
        (refine wpX_take (i := 6) (v := ?_) (by simp only [List.getElem?_toArray, List.getElem?_cons_succ, List.getElem?_cons_zero]; rfl) (by kernel_rfl) (by kernel_rfl) (by kernel_rfl) (by kernel_rfl) (by exact fun _ _ _ h => h) (Or.inl ⟨by rfl, ?_⟩) (by assumption) ?_; rotate_left; (intro w hSw; (try dsimp only at hSw); go_simp); (try with_reducible rfl); (try simp only [Act.put, List.setIfInBounds_toArray, List.set_cons_zero, List.set_cons_succ]))
        refine wpX_one (i := 7) (by kernel_rfl) (by simp only [List.getElem?_toArray, List.getElem?_cons_succ, List.getElem?_cons_zero]; rfl) (fun K hK => ?_)
        refine step_copy_splice (by rfl) (.tmp 41) (.tmp 44) 24 24 (by rfl) 3 Tryz.underlying24 (by kernel_rfl) (some ⟨w.heap.size, 1, none⟩) (some ⟨w.heap.size, 0, none⟩) 8 8 1 9 ?_ ?_ w.heap.size 1 (List.replicate 1 (Value.int .i64 (-1)) ++ List.replicate (9 - 1) (Value.int .i64 0)) 3 ?_ (List.replicate 1 (Value.int .i64 (-1))) ?_ ?_ ?_ ?_ w.heap.size w ?_ (Nat.le_refl _) ?_
        · rfl
        · rfl
        · exact hN0
        · decide
        · exact fun _ => ⟨rfl, _, rfl, fun j v hj => hsrc j v (by have hjm := (List.getElem?_eq_some_iff.1 hj).1; simp at hjm; rw [List.getElem?_replicate] at hj ⊢; rw [if_pos (by omega)] at hj; rw [if_pos (by omega)]; exact hj)⟩
        · decide
        · simp [Value.oneCell']
        · exact hbr.drew
        intro w2 hg2 hb2
        have hS2 : (fun _ : World => True) w2 := trivial
        (refine hK.out _ _ (Or.inr trivial) ?_; clear hK; (try simp only [Act.put, List.setIfInBounds_toArray, List.set_cons_zero, List.set_cons_succ]))
        (refine wpX_take (i := 8) (v := ?_) (by simp only [List.getElem?_toArray, List.getElem?_cons_succ, List.getElem?_cons_zero]; rfl) (by kernel_rfl) (by kernel_rfl) (by kernel_rfl) (by kernel_rfl) (by exact fun _ _ _ h => h) (Or.inl ⟨by rfl, ?_⟩) (by assumption) ?_; rotate_left; (intro w hSw; (try dsimp only at hSw); go_simp); (try with_reducible rfl); (try simp only [Act.put, List.setIfInBounds_toArray, List.set_cons_zero, List.set_cons_succ]))
        refine wpX_one (i := 9) (by kernel_rfl) (by simp only [List.getElem?_toArray, List.getElem?_cons_succ, List.getElem?_cons_zero]; rfl) (fun K hK => ?_)
        go_simp
        (refine hK.out _ _ (Or.inl rfl) ?_; clear hK; (try simp only [Act.put, List.setIfInBounds_toArray, List.set_cons_zero, List.set_cons_succ]))
        refine wpX_done (by kernel_rfl) ?_ _
        have hN2 : Nine w2 w.heap.size 2 := hg2
        clear hg2 hN0 hsrc
        go_wp2
        go_roundw
        case rel => exact ⟨2, by omega, rfl, hN2, hb2⟩
        case measure => first | (simp [intOf, goInt]; done) | (simp [intOf, goInt]; omega) | decide
      · have hsrc := hN.at_ (by omega)
        have hN0 := hN.out
        clear h9
        go_wp2_with fail
        have hS0 : (fun _ : World => True) wr.drew := trivial
        refine wp_region_X (fun _ : World => True) 9 (by kernel_rfl) ?_
        (refine wpX_take (i := 0) (v := ?_) (by simp only [List.getElem?_toArray, List.getElem?_cons_succ, List.getElem?_cons_zero]; rfl) (by kernel_rfl) (by kernel_rfl) (by kernel_rfl) (by kernel_rfl) (by exact fun _ _ _ h => h) (Or.inl ⟨by rfl, ?_⟩) (by assumption) ?_; rotate_left; (intro w hSw; (try dsimp only at hSw); go_simp); (try with_reducible rfl); (try simp only [Act.put, List.setIfInBounds_toArray, List.set_cons_zero, List.set_cons_succ]))
        (refine wpX_take (i := 1) (v := ?_) (by simp only [List.getElem?_toArray, List.getElem?_cons_succ, List.getElem?_cons_zero]; rfl) (by kernel_rfl) (by kernel_rfl) (by kernel_rfl) (by kernel_rfl) (by exact fun _ _ _ h => h) (Or.inl ⟨by rfl, ?_⟩) (by assumption) ?_; rotate_left; (intro w hSw; (try dsimp only at hSw); go_simp); (try with_reducible rfl); (try simp only [Act.put, List.setIfInBounds_toArray, List.set_cons_zero, List.set_cons_succ]))
        (refine wpX_take (i := 2) (v := ?_) (by simp only [List.getElem?_toArray, List.getElem?_cons_succ, List.getElem?_cons_zero]; rfl) (by kernel_rfl) (by kernel_rfl) (by kernel_rfl) (by kernel_rfl) (by exact fun _ _ _ h => h) (Or.inl ⟨by rfl, ?_⟩) (by assumption) ?_; rotate_left; (intro w hSw; (try dsimp only at hSw); go_simp); (try with_reducible rfl); (try simp only [Act.put, List.setIfInBounds_toArray, List.set_cons_zero, List.set_cons_succ]))
        (refine wpX_take (i := 3) (v := ?_) (by simp only [List.getElem?_toArray, List.getElem?_cons_succ, List.getElem?_cons_zero]; rfl) (by kernel_rfl) (by kernel_rfl) (by kernel_rfl) (by kernel_rfl) (by exact fun _ _ _ h => h) (Or.inl ⟨by rfl, ?_⟩) (by assumption) ?_; rotate_left; (intro w hSw; (try dsimp only at hSw); go_simp); (try with_reducible rfl); (try simp only [Act.put, List.setIfInBounds_toArray, List.set_cons_zero, List.set_cons_succ]))
        (refine wpX_take (i := 4) (v := ?_) (by simp only [List.getElem?_toArray, List.getElem?_cons_succ, List.getElem?_cons_zero]; rfl) (by kernel_rfl) (by kernel_rfl) (by kernel_rfl) (by kernel_rfl) (by exact fun _ _ _ h => h) (Or.inl ⟨by rfl, ?_⟩) (by assumption) ?_; rotate_left; (intro w hSw; (try dsimp only at hSw); go_simp); (try with_reducible rfl); (try simp only [Act.put, List.setIfInBounds_toArray, List.set_cons_zero, List.set_cons_succ]))
        (refine wpX_take (i := 5) (v := ?_) (by simp only [List.getElem?_toArray, List.getElem?_cons_succ, List.getElem?_cons_zero]; rfl) (by kernel_rfl) (by kernel_rfl) (by kernel_rfl) (by kernel_rfl) (by exact fun _ _ _ h => h) (Or.inl ⟨by rfl, ?_⟩) (by assumption) ?_; rotate_left; (intro w hSw; (try dsimp only at hSw); go_simp); (try with_reducible rfl); (try simp only [Act.put, List.setIfInBounds_toArray, List.set_cons_zero, List.set_cons_succ]))
        (refine wpX_take (i := 6) (v := ?_) (by simp only [List.getElem?_toArray, List.getElem?_cons_succ, List.getElem?_cons_zero]; rfl) (by kernel_rfl) (by kernel_rfl) (by kernel_rfl) (by kernel_rfl) (by exact fun _ _ _ h => h) (Or.inl ⟨by rfl, ?_⟩) (by assumption) ?_; rotate_left; (intro w hSw; (try dsimp only at hSw); go_simp); (try with_reducible rfl); (try simp only [Act.put, List.setIfInBounds_toArray, List.set_cons_zero, List.set_cons_succ]))
        refine wpX_one (i := 7) (by kernel_rfl) (by simp only [List.getElem?_toArray, List.getElem?_cons_succ, List.getElem?_cons_zero]; rfl) (fun K hK => ?_)
        refine step_copy_splice (by rfl) (.tmp 41) (.tmp 44) 24 24 (by rfl) 3 Tryz.underlying24 (by kernel_rfl) (some ⟨w.heap.size, 2, none⟩) (some ⟨w.heap.size, 0, none⟩) 7 7 2 9 ?_ ?_ w.heap.size 2 (List.replicate 2 (Value.int .i64 (-1)) ++ List.replicate (9 - 2) (Value.int .i64 0)) 3 ?_ (List.replicate 2 (Value.int .i64 (-1))) ?_ ?_ ?_ ?_ w.heap.size w ?_ (Nat.le_refl _) ?_
        · rfl
        · rfl
        · exact hN0
        · decide
        · exact fun _ => ⟨rfl, _, rfl, fun j v hj => hsrc j v (by have hjm := (List.getElem?_eq_some_iff.1 hj).1; simp at hjm; rw [List.getElem?_replicate] at hj ⊢; rw [if_pos (by omega)] at hj; rw [if_pos (by omega)]; exact hj)⟩
        · decide
        · simp [Value.oneCell']
        · exact hbr.drew
        intro w2 hg2 hb2
        have hS2 : (fun _ : World => True) w2 := trivial
        (refine hK.out _ _ (Or.inr trivial) ?_; clear hK; (try simp only [Act.put, List.setIfInBounds_toArray, List.set_cons_zero, List.set_cons_succ]))
        (refine wpX_take (i := 8) (v := ?_) (by simp only [List.getElem?_toArray, List.getElem?_cons_succ, List.getElem?_cons_zero]; rfl) (by kernel_rfl) (by kernel_rfl) (by kernel_rfl) (by kernel_rfl) (by exact fun _ _ _ h => h) (Or.inl ⟨by rfl, ?_⟩) (by assumption) ?_; rotate_left; (intro w hSw; (try dsimp only at hSw); go_simp); (try with_reducible rfl); (try simp only [Act.put, List.setIfInBounds_toArray, List.set_cons_zero, List.set_cons_succ]))
        refine wpX_one (i := 9) (by kernel_rfl) (by simp only [List.getElem?_toArray, List.getElem?_cons_succ, List.getElem?_cons_zero]; rfl) (fun K hK => ?_)
        go_simp
        (refine hK.out _ _ (Or.inl rfl) ?_; clear hK; (try simp only [Act.put, List.setIfInBounds_toArray, List.set_cons_zero, List.set_cons_succ]))
        refine wpX_done (by kernel_rfl) ?_ _
        have hN2 : Nine w2 w.heap.size 4 := hg2
        clear hg2 hN0 hsrc
        go_wp2
        go_roundw
        case rel => exact ⟨4, by omega, rfl, hN2, hb2⟩
        case measure => first | (simp [intOf, goInt]; done) | (simp [intOf, goInt]; omega) | decide
      · have hsrc := hN.at_ (by omega)
        have hN0 := hN.out
        clear h9
        go_wp2_with fail
        have hS0 : (fun _ : World => True) wr.drew := trivial
        refine wp_region_X (fun _ : World => True) 9 (by kernel_rfl) ?_
        (refine wpX_take (i := 0) (v := ?_) (by simp only [List.getElem?_toArray, List.getElem?_cons_succ, List.getElem?_cons_zero]; rfl) (by kernel_rfl) (by kernel_rfl) (by kernel_rfl) (by kernel_rfl) (by exact fun _ _ _ h => h) (Or.inl ⟨by rfl, ?_⟩) (by assumption) ?_; rotate_left; (intro w hSw; (try dsimp only at hSw); go_simp); (try with_reducible rfl); (try simp only [Act.put, List.setIfInBounds_toArray, List.set_cons_zero, List.set_cons_succ]))
        (refine wpX_take (i := 1) (v := ?_) (by simp only [List.getElem?_toArray, List.getElem?_cons_succ, List.getElem?_cons_zero]; rfl) (by kernel_rfl) (by kernel_rfl) (by kernel_rfl) (by kernel_rfl) (by exact fun _ _ _ h => h) (Or.inl ⟨by rfl, ?_⟩) (by assumption) ?_; rotate_left; (intro w hSw; (try dsimp only at hSw); go_simp); (try with_reducible rfl); (try simp only [Act.put, List.setIfInBounds_toArray, List.set_cons_zero, List.set_cons_succ]))
        (refine wpX_take (i := 2) (v := ?_) (by simp only [List.getElem?_toArray, List.getElem?_cons_succ, List.getElem?_cons_zero]; rfl) (by kernel_rfl) (by kernel_rfl) (by kernel_rfl) (by kernel_rfl) (by exact fun _ _ _ h => h) (Or.inl ⟨by rfl, ?_⟩) (by assumption) ?_; rotate_left; (intro w hSw; (try dsimp only at hSw); go_simp); (try with_reducible rfl); (try simp only [Act.put, List.setIfInBounds_toArray, List.set_cons_zero, List.set_cons_succ]))
        (refine wpX_take (i := 3) (v := ?_) (by simp only [List.getElem?_toArray, List.getElem?_cons_succ, List.getElem?_cons_zero]; rfl) (by kernel_rfl) (by kernel_rfl) (by kernel_rfl) (by kernel_rfl) (by exact fun _ _ _ h => h) (Or.inl ⟨by rfl, ?_⟩) (by assumption) ?_; rotate_left; (intro w hSw; (try dsimp only at hSw); go_simp); (try with_reducible rfl); (try simp only [Act.put, List.setIfInBounds_toArray, List.set_cons_zero, List.set_cons_succ]))
        (refine wpX_take (i := 4) (v := ?_) (by simp only [List.getElem?_toArray, List.getElem?_cons_succ, List.getElem?_cons_zero]; rfl) (by kernel_rfl) (by kernel_rfl) (by kernel_rfl) (by kernel_rfl) (by exact fun _ _ _ h => h) (Or.inl ⟨by rfl, ?_⟩) (by assumption) ?_; rotate_left; (intro w hSw; (try dsimp only at hSw); go_simp); (try with_reducible rfl); (try simp only [Act.put, List.setIfInBounds_toArray, List.set_cons_zero, List.set_cons_succ]))
        (refine wpX_take (i := 5) (v := ?_) (by simp only [List.getElem?_toArray, List.getElem?_cons_succ, List.getElem?_cons_zero]; rfl) (by kernel_rfl) (by kernel_rfl) (by kernel_rfl) (by kernel_rfl) (by exact fun _ _ _ h => h) (Or.inl ⟨by rfl, ?_⟩) (by assumption) ?_; rotate_left; (intro w hSw; (try dsimp only at hSw); go_simp); (try with_reducible rfl); (try simp only [Act.put, List.setIfInBounds_toArray, List.set_cons_zero, List.set_cons_succ]))
        (refine wpX_take (i := 6) (v := ?_) (by simp only [List.getElem?_toArray, List.getElem?_cons_succ, List.getElem?_cons_zero]; rfl) (by kernel_rfl) (by kernel_rfl) (by kernel_rfl) (by kernel_rfl) (by exact fun _ _ _ h => h) (Or.inl ⟨by rfl, ?_⟩) (by assumption) ?_; rotate_left; (intro w hSw; (try dsimp only at hSw); go_simp); (try with_reducible rfl); (try simp only [Act.put, List.setIfInBounds_toArray, List.set_cons_zero, List.set_cons_succ]))
        refine wpX_one (i := 7) (by kernel_rfl) (by simp only [List.getElem?_toArray, List.getElem?_cons_succ, List.getElem?_cons_zero]; rfl) (fun K hK => ?_)
        refine step_copy_splice (by rfl) (.tmp 41) (.tmp 44) 24 24 (by rfl) 3 Tryz.underlying24 (by kernel_rfl) (some ⟨w.heap.size, 4, none⟩) (some ⟨w.heap.size, 0, none⟩) 5 5 4 9 ?_ ?_ w.heap.size 4 (List.replicate 4 (Value.int .i64 (-1)) ++ List.replicate (9 - 4) (Value.int .i64 0)) 3 ?_ (List.replicate 4 (Value.int .i64 (-1))) ?_ ?_ ?_ ?_ w.heap.size w ?_ (Nat.le_refl _) ?_
        · rfl
        · rfl
        · exact hN0
        · decide
        · exact fun _ => ⟨rfl, _, rfl, fun j v hj => hsrc j v (by have hjm := (List.getElem?_eq_some_iff.1 hj).1; simp at hjm; rw [List.getElem?_replicate] at hj ⊢; rw [if_pos (by omega)] at hj; rw [if_pos (by omega)]; exact hj)⟩
        · decide
        · simp [Value.oneCell']
        · exact hbr.drew
        intro w2 hg2 hb2
        have hS2 : (fun _ : World => True) w2 := trivial
        (refine hK.out _ _ (Or.inr trivial) ?_; clear hK; (try simp only [Act.put, List.setIfInBounds_toArray, List.set_cons_zero, List.set_cons_succ]))
        (refine wpX_take (i := 8) (v := ?_) (by simp only [List.getElem?_toArray, List.getElem?_cons_succ, List.getElem?_cons_zero]; rfl) (by kernel_rfl) (by kernel_rfl) (by kernel_rfl) (by kernel_rfl) (by exact fun _ _ _ h => h) (Or.inl ⟨by rfl, ?_⟩) (by assumption) ?_; rotate_left; (intro w hSw; (try dsimp only at hSw); go_simp); (try with_reducible rfl); (try simp only [Act.put, List.setIfInBounds_toArray, List.set_cons_zero, List.set_cons_succ]))
        refine wpX_one (i := 9) (by kernel_rfl) (by simp only [List.getElem?_toArray, List.getElem?_cons_succ, List.getElem?_cons_zero]; rfl) (fun K hK => ?_)
        go_simp
        (refine hK.out _ _ (Or.inl rfl) ?_; clear hK; (try simp only [Act.put, List.setIfInBounds_toArray, List.set_cons_zero, List.set_cons_succ]))
        refine wpX_done (by kernel_rfl) ?_ _
        have hN2 : Nine w2 w.heap.size 8 := hg2
        clear hg2 hN0 hsrc
        go_wp2
        go_roundw
        case rel => exact ⟨8, by omega, rfl, hN2, hb2⟩
        case measure => first | (simp [intOf, goInt]; done) | (simp [intOf, goInt]; omega) | decide
      · have hsrc := hN.at_ (by omega)
        have hN0 := hN.out
        clear h9
        go_wp2_with fail
        have hS0 : (fun _ : World => True) wr.drew := trivial
        refine wp_region_X (fun _ : World => True) 9 (by kernel_rfl) ?_
        (refine wpX_take (i := 0) (v := ?_) (by simp only [List.getElem?_toArray, List.getElem?_cons_succ, List.getElem?_cons_zero]; rfl) (by kernel_rfl) (by kernel_rfl) (by kernel_rfl) (by kernel_rfl) (by exact fun _ _ _ h => h) (Or.inl ⟨by rfl, ?_⟩) (by assumption) ?_; rotate_left; (intro w hSw; (try dsimp only at hSw); go_simp); (try with_reducible rfl); (try simp only [Act.put, List.setIfInBounds_toArray, List.set_cons_zero, List.set_cons_succ]))
        (refine wpX_take (i := 1) (v := ?_) (by simp only [List.getElem?_toArray, List.getElem?_cons_succ, List.getElem?_cons_zero]; rfl) (by kernel_rfl) (by kernel_rfl) (by kernel_rfl) (by kernel_rfl) (by exact fun _ _ _ h => h) (Or.inl ⟨by rfl, ?_⟩) (by assumption) ?_; rotate_left; (intro w hSw; (try dsimp only at hSw); go_simp); (try with_reducible rfl); (try simp only [Act.put, List.setIfInBounds_toArray, List.set_cons_zero, List.set_cons_succ]))
        (refine wpX_take (i := 2) (v := ?_) (by simp only [List.getElem?_toArray, List.getElem?_cons_succ, List.getElem?_cons_zero]; rfl) (by kernel_rfl) (by kernel_rfl) (by kernel_rfl) (by kernel_rfl) (by exact fun _ _ _ h => h) (Or.inl ⟨by rfl, ?_⟩) (by assumption) ?_; rotate_left; (intro w hSw; (try dsimp only at hSw); go_simp); (try with_reducible rfl); (try simp only [Act.put, List.setIfInBounds_toArray, List.set_cons_zero, List.set_cons_succ]))
        (refine wpX_take (i := 3) (v := ?_) (by simp only [List.getElem?_toArray, List.getElem?_cons_succ, List.getElem?_cons_zero]; rfl) (by kernel_rfl) (by kernel_rfl) (by kernel_rfl) (by kernel_rfl) (by exact fun _ _ _ h => h) (Or.inl ⟨by rfl, ?_⟩) (by assumption) ?_; rotate_left; (intro w hSw; (try dsimp only at hSw); go_simp); (try with_reducible rfl); (try simp only [Act.put, List.setIfInBounds_toArray, List.set_cons_zero, List.set_cons_succ]))
        (refine wpX_take (i := 4) (v := ?_) (by simp only [List.getElem?_toArray, List.getElem?_cons_succ, List.getElem?_cons_zero]; rfl) (by kernel_rfl) (by kernel_rfl) (by kernel_rfl) (by kernel_rfl) (by exact fun _ _ _ h => h) (Or.inl ⟨by rfl, ?_⟩) (by assumption) ?_; rotate_left; (intro w hSw; (try dsimp only at hSw); go_simp); (try with_reducible rfl); (try simp only [Act.put, List.setIfInBounds_toArray, List.set_cons_zero, List.set_cons_succ]))
        (refine wpX_take (i := 5) (v := ?_) (by simp only [List.getElem?_toArray, List.getElem?_cons_succ, List.getElem?_cons_zero]; rfl) (by kernel_rfl) (by kernel_rfl) (by kernel_rfl) (by kernel_rfl) (by exact fun _ _ _ h => h) (Or.inl ⟨by rfl, ?_⟩) (by assumption) ?_; rotate_left; (intro w hSw; (try dsimp only at hSw); go_simp); (try with_reducible rfl); (try simp only [Act.put, List.setIfInBounds_toArray, List.set_cons_zero, List.set_cons_succ]))
        (refine wpX_take (i := 6) (v := ?_) (by simp only [List.getElem?_toArray, List.getElem?_cons_succ, List.getElem?_cons_zero]; rfl) (by kernel_rfl) (by kernel_rfl) (by kernel_rfl) (by kernel_rfl) (by exact fun _ _ _ h => h) (Or.inl ⟨by rfl, ?_⟩) (by assumption) ?_; rotate_left; (intro w hSw; (try dsimp only at hSw); go_simp); (try with_reducible rfl); (try simp only [Act.put, List.setIfInBounds_toArray, List.set_cons_zero, List.set_cons_succ]))
        refine wpX_one (i := 7) (by kernel_rfl) (by simp only [List.getElem?_toArray, List.getElem?_cons_succ, List.getElem?_cons_zero]; rfl) (fun K hK => ?_)
        refine step_copy_splice (by rfl) (.tmp 41) (.tmp 44) 24 24 (by rfl) 3 Tryz.underlying24 (by kernel_rfl) (some ⟨w.heap.size, 8, none⟩) (some ⟨w.heap.size, 0, none⟩) 1 1 8 9 ?_ ?_ w.heap.size 8 (List.replicate 8 (Value.int .i64 (-1)) ++ List.replicate (9 - 8) (Value.int .i64 0)) 3 ?_ (List.replicate 1 (Value.int .i64 (-1))) ?_ ?_ ?_ ?_ w.heap.size w ?_ (Nat.le_refl _) ?_
        · rfl
        · rfl
        · exact hN0
        · decide
        · exact fun _ => ⟨rfl, _, rfl, fun j v hj => hsrc j v (by have hjm := (List.getElem?_eq_some_iff.1 hj).1; simp at hjm; rw [List.getElem?_replicate] at hj ⊢; rw [if_pos (by omega)] at hj; rw [if_pos (by omega)]; exact hj)⟩
        · decide
        · simp [Value.oneCell']
        · exact hbr.drew
        intro w2 hg2 hb2
        have hS2 : (fun _ : World => True) w2 := trivial
        (refine hK.out _ _ (Or.inr trivial) ?_; clear hK; (try simp only [Act.put, List.setIfInBounds_toArray, List.set_cons_zero, List.set_cons_succ]))
        (refine wpX_take (i := 8) (v := ?_) (by simp only [List.getElem?_toArray, List.getElem?_cons_succ, List.getElem?_cons_zero]; rfl) (by kernel_rfl) (by kernel_rfl) (by kernel_rfl) (by kernel_rfl) (by exact fun _ _ _ h => h) (Or.inl ⟨by rfl, ?_⟩) (by assumption) ?_; rotate_left; (intro w hSw; (try dsimp only at hSw); go_simp); (try with_reducible rfl); (try simp only [Act.put, List.setIfInBounds_toArray, List.set_cons_zero, List.set_cons_succ]))
        refine wpX_one (i := 9) (by kernel_rfl) (by simp only [List.getElem?_toArray, List.getElem?_cons_succ, List.getElem?_cons_zero]; rfl) (fun K hK => ?_)
        go_simp
        (refine hK.out _ _ (Or.inl rfl) ?_; clear hK; (try simp only [Act.put, List.setIfInBounds_toArray, List.set_cons_zero, List.set_cons_succ]))
        refine wpX_done (by kernel_rfl) ?_ _
        have hN2 : Nine w2 w.heap.size 9 := hg2
        clear hg2 hN0 hsrc
        go_wp2
        go_roundw
        case rel => exact ⟨9, by omega, rfl, hN2, hb2⟩
        case measure => first | (simp [intOf, goInt]; done) | (simp [intOf, goInt]; omega) | decide
      · exact absurd rfl h9

theorem Nine.sl {w : World} {g : Nat} {p : Nat → Prop} (h : Nine w g 9) (hp : p g) : Sl w p 1 (some ⟨g, 0, none⟩) 9 (ints minus9) := by
  have hlt : g < w.heap.size := Blk.lt (t := 3) h.out
  refine ⟨rfl, by decide, fun _ => ⟨g, 0, rfl, hp, hlt, fun j u hu => ?_⟩⟩
  have := h.at_ (Nat.le_refl 9) j u (by
    have hj := (List.getElem?_eq_some_iff.1 hu).1
    simp [ints, minus9] at hj
    rw [show ints minus9 = List.replicate 9 (Value.int .i64 (-1)) from rfl] at hu
    exact hu)
  unfold Addr.add at this
  split at this
  · subst_vars; exact this
  · simpa using this

set_option maxRecDepth 100000 in
theorem nothing_any (w : World) : Calls Tryz.prog 66 #[] w fun e w' => AutRes w w' nothingAut e := by
  go_enter Tryz.func66, Tryz.ntmps66
  go_wp2_with fail
  refine (repeat_any (w.heap.size + 1 + 1) _ ?_ ?_).mono ?_
  · rw [show (w.heap.size + 1 + 1) = ((w.alloc (.cells #[.int .i64 0, .slice none 0 0, .slice none 0 0] 31)).alloc (.cells #[.bool false] 4)).heap.size by simp]
    exact (Blk.new _ _ _).cell 0
  · simp
  rintro e w1 ⟨rfl, hN, hb1⟩
  have hRB : Blk w1 w.heap.size 31 #[.int .i64 0, .slice none 0 0, .slice none 0 0] := (((Blk.new w _ _).alloc _).alloc _).below hb1 (by simp; omega)
  have hBB : Sl w1 (w.heap.size + 1 ≤ ·) 1 (some ⟨w.heap.size + 1, 0, none⟩) 1 (bools [false]) := by
    have h1 := sl_new (p := (w.heap.size + 1 ≤ ·)) (w := w.alloc (.cells #[.int .i64 0, .slice none 0 0, .slice none 0 0] 31)) (cs := #[.bool false]) (t := 4) (n := 1) (size := 1) (g := w.heap.size + 1) (by simp) (Nat.le_refl _) (by decide) rfl
    have h2 := h1.al (.cells #[.int .i64 (-1)] 3)
    exact h2.keep hb1.size (fun b _ hb => hb1.block b hb)
  have hNs := hN.sl (p := (w.heap.size + 1 ≤ ·)) (by simp)
  simp only [size_alloc] at hNs
  have hbz : Below w.heap.size w w1 := ((below_alloc2 w _ _).alloc (by simp; omega) _).trans (hb1.mono (by simp; omega))
  have hsz : w.heap.size + 1 + 1 + 1 ≤ w1.heap.size := by have := hb1.size; simp at this; omega
  have q0 := hRB.cell 0; have q1 := hRB.cell 1; have q2 := hRB.cell 2
  simp at q0 q1 q2
  have z0 := hRB.frozen 0; have z1 := hRB.frozen 1; have z2 := hRB.frozen 2
  have hF := (hRB.set3 (x' := .int .i64 0) (y' := .slice (some ⟨w.heap.size + 1, 0, none⟩) 1 1) (z' := .slice (some ⟨w1.heap.size, 0, none⟩) 1 1)).alloc (.cells #[.slice (some ⟨w.heap.size + 1 + 1 + 1, 0, none⟩) 9 9] 24)
  have t0 := hF.cell 0; have t1 := hF.cell 1; have t2 := hF.cell 2
  clear hF hb1 hN
  have hlt := hRB.lt
  go_wp2
  refine bodyPost_ret (v := .agg #[.int .i64 0, .slice (some ⟨w.heap.size + 1, 0, none⟩) 1 1, .slice (some ⟨w1.heap.size, 0, none⟩) 1 1]) (by simp [results, Tryz.results66, go_sem, t0, t1, t2]) rfl ?_
  have hne : ∀ b, w.heap.size + 1 ≤ b → b ≠ w.heap.size := fun b hb => by omega
  refine ⟨_, rfl, ⟨_, 1, 1, _, 1, 1, rfl, ?_, ?_⟩, ?_⟩
  · exact ((((hBB.set_ (a := ⟨w.heap.size, 0, none⟩) _ hne).set_ (a := ⟨w.heap.size, 1, none⟩) _ hne).set_ (a := ⟨w.heap.size, 2, none⟩) _ hne).al _).weak (fun b hb _ => by have hb : w.heap.size + 1 ≤ b := hb; show w.heap.size ≤ b; omega)
  · have h1 := sl_new (p := (w.heap.size ≤ ·)) (w := ((w1.setCell ⟨w.heap.size, 0, none⟩ (.int .i64 0)).setCell ⟨w.heap.size, 1, none⟩ (.slice (some ⟨w.heap.size + 1, 0, none⟩) 1 1)).setCell ⟨w.heap.size, 2, none⟩ (.slice (some ⟨w1.heap.size, 0, none⟩) 1 1)) (cs := #[.slice (some ⟨w.heap.size + 1 + 1 + 1, 0, none⟩) 9 9]) (t := 24) (n := 1) (size := 1) (g := w1.heap.size) (by simp) (by omega) (by decide) rfl
    refine ⟨_, h1, rfl, fun j r hj => ?_⟩
    have hj0 : j = 0 := by have := (List.getElem?_eq_some_iff.1 hj).1; simp [nothingAut] at this; omega
    subst hj0
    simp only [nothingAut, List.getElem?_cons_zero, Option.some.injEq] at hj
    subst hj
    exact ⟨_, 9, rfl, ((((hNs.set_ (a := ⟨w.heap.size, 0, none⟩) _ hne).set_ (a := ⟨w.heap.size, 1, none⟩) _ hne).set_ (a := ⟨w.heap.size, 2, none⟩) _ hne).al _).weak (fun b hb _ => by have hb : w.heap.size + 1 ≤ b := hb; show w.heap.size ≤ b; omega)⟩
  · exact (((hbz.setCell (by simp) _).setCell (by simp) _).setCell (by simp) _).alloc (by simp; omega) _
end Go.Proofs.YtmnhpbbapkcdjaaGreat

/- States numbered as they are found, one for each class (plain). -/
namespace Go.Proofs.YtmnhpbbapkcdjaaGreat

theorem nodup_bound : ∀ (n : Nat) (l : List Int), l.Nodup → (∀ x ∈ l, 0 ≤ x ∧ x < n) → l.length ≤ n
  | 0, l, _, h => by
    cases l with
    | nil => simp
    | cons x l => have := h x (by simp); omega
  | n + 1, l, hn, h => by
    by_cases hm : (n : Int) ∈ l
    · have h1 := nodup_bound n (l.erase (n : Int)) (hn.erase _) (fun x hx => by
        have h2 := (hn.mem_erase_iff).1 hx
        have := h x h2.2
        have : x ≠ n := h2.1
        omega)
      rw [List.length_erase_of_mem hm] at h1
      omega
    · have := nodup_bound n l hn (fun x hx => by
        have h2 := h x hx
        have : x ≠ n := fun e => hm (e ▸ hx)
        omega)
      omega

def rowStepC (cl : Int → Int) (nx : Int → Nat → Option Int) (s : Int) (st : List Int × List Int) (k : Nat) : List Int × List Int :=
  match nx s k with
  | none => (st.1, st.2 ++ [-1])
  | some t => if findI (cl t) (st.1.map cl) 0 < 0 then (st.1 ++ [t], st.2 ++ [(st.1.length : Int)]) else (st.1, st.2 ++ [findI (cl t) (st.1.map cl) 0])
def rowC (cl : Int → Int) (nx : Int → Nat → Option Int) (s : Int) (ls : List Int) : List Int × List Int := upto (rowStepC cl nx s) (ls, []) 9
def numRunC (cl : Int → Int) (nx : Int → Nat → Option Int) (ac : Int → Bool) : Nat → Nat → List Int → List Bool → List (List Int) → List Bool × List (List Int)
  | 0, _, _, acc, nxs => (acc, nxs)
  | f + 1, i, ls, acc, nxs =>
    if i < ls.length then numRunC cl nx ac f (i + 1) (rowC cl nx (ls[i]?.getD 0) ls).1 (acc ++ [ac (ls[i]?.getD 0)]) (nxs ++ [(rowC cl nx (ls[i]?.getD 0) ls).2])
    else (acc, nxs)
section
variable {cl : Int → Int} {nx : Int → Nat → Option Int} {ac : Int → Bool} {s t : Int} {st : List Int × List Int} {k : Nat}
theorem rowStepC_none (h : nx s k = none) : rowStepC cl nx s st k = (st.1, st.2 ++ [-1]) := by unfold rowStepC; rw [h]
theorem rowStepC_old (h : nx s k = some t) (hf : ¬ findI (cl t) (st.1.map cl) 0 < 0) : rowStepC cl nx s st k = (st.1, st.2 ++ [findI (cl t) (st.1.map cl) 0]) := by
  unfold rowStepC; rw [h]; simp only [if_neg hf]
theorem rowStepC_new (h : nx s k = some t) (hf : findI (cl t) (st.1.map cl) 0 < 0) : rowStepC cl nx s st k = (st.1 ++ [t], st.2 ++ [(st.1.length : Int)]) := by
  unfold rowStepC; rw [h]; simp only [if_pos hf]
theorem rowStepC_len : (rowStepC cl nx s st k).2.length = st.2.length + 1 ∧ st.1.length ≤ (rowStepC cl nx s st k).1.length ∧ ∃ ex, (rowStepC cl nx s st k).1 = st.1 ++ ex := by
  unfold rowStepC
  split
  · exact ⟨by simp, by simp, [], by simp⟩
  · (try dsimp only); split
    · exact ⟨by simp, by simp, _, rfl⟩
    · exact ⟨by simp, by simp, [], by simp⟩
theorem upto_rowC {ls : List Int} : ∀ k, (upto (rowStepC cl nx s) (ls, []) k).2.length = k ∧ ∃ ex, (upto (rowStepC cl nx s) (ls, []) k).1 = ls ++ ex
  | 0 => ⟨rfl, [], by simp [upto]⟩
  | k + 1 => by
    obtain ⟨h1, ex, h2⟩ := upto_rowC (ls := ls) k
    obtain ⟨h3, _, ex2, h4⟩ := rowStepC_len (cl := cl) (nx := nx) (s := s) (st := upto (rowStepC cl nx s) (ls, []) k) (k := k)
    refine ⟨by show (rowStepC cl nx s (upto (rowStepC cl nx s) (ls, []) k) k).2.length = _; omega, ex ++ ex2, ?_⟩
    show (rowStepC cl nx s (upto (rowStepC cl nx s) (ls, []) k) k).1 = _
    rw [h4, h2, List.append_assoc]
theorem numRunC_done {f i : Nat} {ls : List Int} {acc : List Bool} {nxs : List (List Int)} (hi : ¬ i < ls.length) : numRunC cl nx ac f i ls acc nxs = (acc, nxs) := by
  cases f with
  | zero => rfl
  | succ f => unfold numRunC; rw [if_neg hi]
theorem numRunC_next {f i : Nat} {ls : List Int} {acc : List Bool} {nxs : List (List Int)} (hf : 0 < f) (hi : i < ls.length) :
    numRunC cl nx ac f i ls acc nxs = numRunC cl nx ac (f - 1) (i + 1) (rowC cl nx (ls[i]?.getD 0) ls).1 (acc ++ [ac (ls[i]?.getD 0)]) (nxs ++ [(rowC cl nx (ls[i]?.getD 0) ls).2]) := by
  obtain ⟨g, rfl⟩ : ∃ g, f = g + 1 := ⟨f - 1, by omega⟩
  conv => lhs; unfold numRunC
  rw [if_pos hi]; rfl
end

def cfun (cls : List Int) (t : Int) : Int := cls[t.toNat]?.getD 0
def nnx (a : Aut) (o : List Bool) (s : Int) (k : Nat) : Option Int := if 0 ≤ a.nx s.toNat k ∧ o[(a.nx s.toNat k).toNat]?.getD false = true then some (a.nx s.toNat k) else none
def nac (a : Aut) (s : Int) : Bool := a.acc[s.toNat]?.getD false
def numC (a : Aut) (cls : List Int) (o : List Bool) : List Bool × List (List Int) := numRunC (cfun cls) (nnx a o) (nac a) (a.n + 1) 0 [a.start] [] []
def numAut (a : Aut) (cls : List Int) (o : List Bool) : Aut := if o[a.start.toNat]?.getD false = true then ⟨0, (numC a cls o).1, (numC a cls o).2⟩ else nothingAut
/-- the states found so far: in range, live, their classes all apart -/
structure Found (a : Aut) (cls : List Int) (o : List Bool) (ls : List Int) : Prop where
  rng : ∀ x ∈ ls, 0 ≤ x ∧ x < a.n ∧ o[x.toNat]?.getD false = true
  nd : (ls.map (cfun cls)).Nodup
theorem Found.len {a : Aut} {cls : List Int} {o : List Bool} {ls : List Int} (h : Found a cls o ls) (hc : ∀ s, s < a.n → o[s]?.getD false = true → 0 ≤ cls[s]?.getD 0 ∧ cls[s]?.getD 0 < a.n) : ls.length ≤ a.n := by
  have := nodup_bound a.n (ls.map (cfun cls)) h.nd (fun x hx => by
    obtain ⟨y, hy, rfl⟩ := List.mem_map.1 hx
    have := h.rng y hy
    exact hc y.toNat (by omega) this.2.2)
  simpa using this
theorem Found.push {a : Aut} {cls : List Int} {o : List Bool} {ls : List Int} {t : Int} (h : Found a cls o ls) (h1 : 0 ≤ t) (h2 : t < a.n) (h3 : o[t.toNat]?.getD false = true) (hf : findI (cfun cls t) (ls.map (cfun cls)) 0 < 0) : Found a cls o (ls ++ [t]) := by
  refine ⟨fun x hx => ?_, ?_⟩
  · rcases List.mem_append.1 hx with hx | hx
    · exact h.rng x hx
    · simp at hx; subst hx; exact ⟨h1, h2, h3⟩
  · rw [List.map_append]
    refine List.nodup_append.2 ⟨h.nd, by simp, fun x hx y hy he => ?_⟩
    simp at hy
    subst hy he
    have := (findI_mem (cfun cls t) (ls.map (cfun cls)) 0).2 hx
    omega
end Go.Proofs.YtmnhpbbapkcdjaaGreat
