/- Walks: one refinement of the classes; Walks: valid automata; running a word; Walks: running a word. No condition. -/
import Derived.Test.YtmnhpbbapkcdjaaGreatA06
import Derived.Deep.RegionHeld3

/- Walks: one refinement of the classes. -/
namespace Go.Proofs.YtmnhpbbapkcdjaaGreat
open Go.RowKit

theorem own_bel {w w' : World} {base size n : Nat} {e : TypeId} {v : Value} {xs : List Value} (h : w.ownsRow base e size v n xs) (hb : Below w.heap.size w w') : w'.ownsRow base e size v n xs :=
  h.kept (row := none) ⟨hb.os, hb.tape, hb.output, hb.size, fun k hk _ => hb.block k hk⟩ (by cases v.ownBlock <;> simp)
theorem own_drewN {w : World} {base size n : Nat} {e : TypeId} {v : Value} {xs : List Value} (h : w.ownsRow base e size v n xs) (d : Nat) : (w.drewN d).ownsRow base e size v n xs := h

/-- rows of the call's own in a list of its own, and a row beside them -/
structure RfO (w1 : World) (base : Nat) (K : List (List Int)) (L : List (Value × List Int)) (fin : List (Value × List Int)) (vK : Value) (wr : World) : Prop where
  keys : wr.ownsRow base 24 1 vK K.length (fin.map Prod.fst)
  rows : IRows wr base (L ++ fin)
  snd : fin.map Prod.snd = K
  below : Below base w1 wr
  size : base ≤ wr.heap.size
section
variable {w1 wr w' : World} {base : Nat} {K : List (List Int)} {L fin : List (Value × List Int)} {vK v v' : Value} {xs : List Int}
theorem RfO.bel (h : RfO w1 base K L fin vK wr) (hb : Below wr.heap.size wr w') : RfO w1 base K L fin vK w' :=
  ⟨own_bel h.keys hb, h.rows.below hb, h.snd, h.below.trans (hb.mono h.size), Nat.le_trans h.size hb.size⟩
theorem RfO.alloc (h : RfO w1 base K L fin vK wr) (o : Obj) : RfO w1 base K L fin vK (wr.alloc o) := h.bel (below_alloc wr o)
theorem RfO.drewN (h : RfO w1 base K L fin vK wr) (d : Nat) : RfO w1 base K L fin vK (wr.drewN d) := ⟨h.keys, h.rows.drewN d, h.snd, below_drewN h.below d, h.size⟩
/-- a row beside the keys gets one more -/
theorem RfO.app {u : Int} {n g cap : Nat} (h : RfO w1 base K ((v, xs) :: L) fin vK wr) (hn : n = xs.length) (ho : w'.ownsRow base 3 1 (.slice (some ⟨g, 0, none⟩) (n + 1) cap) (n + 1) (ints xs ++ [.int .i64 u])) (hg : wr.grownBy w' v.ownBlock)
    (hb : v.ownBlock = some g ∨ wr.heap.size < g) : RfO w1 base K ((.slice (some ⟨g, 0, none⟩) (n + 1) cap, xs ++ [u]) :: L) fin vK w' :=
  ⟨h.keys.kept hg (own_ne h.keys (IRows.head (L := L ++ fin) h.rows) (by decide)), IRows.appList (L := L ++ fin) h.rows hn ho hg hb, h.snd,
   h.below.grown hg (Nat.le_trans h.size (Nat.le_refl _)) (own_ge (IRows.head (L := L ++ fin) h.rows)), Nat.le_trans h.size hg.size⟩
/-- a cell block of another kind is written -/
theorem RfO.put (h : RfO w1 base K L fin vK wr) {g : Nat} {cs : Array Value} (hB : Blk wr g 24 cs) (hb : base ≤ g) (hk : vK.ownBlock ≠ some g) (k : Nat) (u : Value) : RfO w1 base K L fin vK (wr.setCell ⟨g, k, none⟩ u) := by
  have hg : wr.grownBy (wr.setCell ⟨g, k, none⟩ u) (some g) := ⟨rfl, rfl, rfl, by simp, fun j hj hne => Below.heap_setCell wr _ _ j (fun e => hne (by rw [e]))⟩
  exact ⟨h.keys.kept hg (.inr hk), h.rows.farBlk hB hg (by decide), h.snd, h.below.setCell (by simpa using hb) _, by simpa using h.size⟩
/-- the keys get one more, of the rows beside them -/
theorem RfO.push {vK' : Value} (h : RfO w1 base K ((v, xs) :: L) fin vK wr) (ho : w'.ownsRow base 24 1 vK' (K.length + 1) (fin.map Prod.fst ++ [v])) (hg : wr.grownBy w' vK.ownBlock) :
    RfO w1 base (K ++ [xs]) L (fin ++ [(v, xs)]) vK' w' := by
  refine ⟨by simpa using ho, ?_, by simp [h.snd], h.below.grown hg h.size (own_ge h.keys), Nat.le_trans h.size hg.size⟩
  refine (h.rows.far h.keys hg (by decide)).perm ?_
  show ((v, xs) :: (L ++ fin)).Perm (L ++ (fin ++ [(v, xs)]))
  rw [← List.append_assoc]
  exact (List.perm_append_singleton _ _).symm
theorem RfO.sls {A : Option Addr} {n c : Nat} (h : RfO w1 base K L fin (.slice A n c) wr) : Sls wr (base ≤ ·) A K.length K := by
  obtain ⟨A2, c2, hv⟩ := own_form h.keys
  injection hv with hv1 hv2 hv3
  subst hv1 hv2 hv3
  have hk := h.keys
  refine ⟨fin.map Prod.fst, Sl.of_own hk (fun b hb => own_ge hk b hb), by simp [← h.snd], fun j r hj => ?_⟩
  rw [← h.snd, List.getElem?_map] at hj
  cases hp : fin[j]? with
  | none => rw [hp] at hj; cases hj
  | some q =>
    rw [hp] at hj
    simp only [Option.map_some, Option.some.injEq] at hj
    subst hj
    have hq := (h.rows.own q (List.mem_append_right _ (List.mem_of_getElem? hp))).1
    obtain ⟨A', c', he⟩ := own_form hq
    refine ⟨A', c', by rw [List.getElem?_map, hp]; simp [he], ?_⟩
    rw [he] at hq
    exact Sl.of_own hq (fun b hb => own_ge hq b hb)
theorem RfO.drop (h : RfO w1 base K ((v, xs) :: L) fin vK wr) : RfO w1 base K L fin vK wr := ⟨h.keys, IRows.tail (L := L ++ fin) h.rows, h.snd, h.below, h.size⟩
theorem RfO.len (h : RfO w1 base K L fin vK wr) : fin.length = K.length := by rw [← h.snd]; simp
theorem RfO.swap {p q : Value × List Int} (h : RfO w1 base K (p :: q :: L) fin vK wr) : RfO w1 base K (q :: p :: L) fin vK wr :=
  ⟨h.keys, IRows.perm (L := p :: q :: (L ++ fin)) h.rows (List.Perm.swap _ _ _), h.snd, h.below, h.size⟩
theorem RfO.one {u : Int} {g : Nat} (h : RfO w1 base K L fin vK wr) (hg : g = wr.heap.size) : RfO w1 base K ((.slice (some ⟨g, 0, none⟩) 1 1, [u]) :: L) fin vK (wr.alloc (.cells #[.int .i64 u] 3)) :=
  ⟨own_bel h.keys (below_alloc _ _), IRows.one h.rows hg (by rw [hg]; exact h.size), h.snd, (h.alloc _).below, (h.alloc (.cells #[.int .i64 u] 3)).size⟩
theorem RfO.new {g : Nat} (h : RfO w1 base K L fin vK wr) (hg : g = wr.heap.size) : RfO w1 base K ((.slice (some ⟨g, 0, none⟩) 0 0, []) :: L) fin vK (wr.alloc (.cells #[] 3)) :=
  ⟨own_bel h.keys (below_alloc _ _), IRows.new h.rows hg (by rw [hg]; exact h.size), h.snd, (h.alloc _).below, (h.alloc (.cells #[] 3)).size⟩
end

/-- the classes behind a round, and how many -/
def RefRes (a : Aut) (cl : List Int) (w w' : World) (e : Ending) : Prop :=
  ∃ v, e = .returned (.tuple #[v, .int .i64 ((refR a cl).1.length : Nat)]) ∧ w'.ownsRow w.heap.size 3 1 v a.n (ints (refR a cl).2) ∧ Below w.heap.size w w'

set_option maxHeartbeats 1000000 in
set_option maxRecDepth 100000 in
theorem refine_any (a : Aut) (v : Value) (cl : List Int) (C : Option Addr) (cC : Nat) (w : World) (p q : Nat → Prop) (h : AutV w p v a) (hf : a.Fits) (hC : Sl w q 1 C a.n (ints cl)) (hn : a.n ≤ 1000) :
    Calls Tryz.prog 89 #[v, .slice C a.n cC] w fun e w' => RefRes a cl w w' e := by
  obtain ⟨A1, c1, A2, c2, rfl, h1, h2⟩ := h.fit hf
  obtain ⟨W1, hW1⟩ : ∃ W1, W1 = w.alloc (.cells #[.int .i64 a.start, .slice A1 a.n c1, .slice A2 a.n c2] 31) := ⟨_, rfl⟩
  have hA2 : Sls W1 (· < w.heap.size) A2 a.n a.next := by rw [hW1]; exact (h2.weak (fun _ _ h => h)).alloc _
  have hC1 : Sl W1 (· < w.heap.size) 1 C a.n (ints cl) := by rw [hW1]; exact (hC.weak (fun _ _ h => h)).alloc _
  have hPB : Blk W1 w.heap.size 31 #[.int .i64 a.start, .slice A1 a.n c1, .slice A2 a.n c2] := by rw [hW1]; exact Blk.new _ _ _
  have hW : Below w.heap.size w W1 := by rw [hW1]; exact below_alloc _ _
  have hs1 : W1.heap.size = w.heap.size + 1 := by rw [hW1]; simp
  have hR0 : RfO W1 (w.heap.size + 1) [] [(.slice (some ⟨w.heap.size + 1 + 1, 0, none⟩) 0 0, [])] [] (.slice (some ⟨w.heap.size + 1, 0, none⟩) 0 0) ((W1.alloc (.cells #[] 24)).alloc (.cells #[] 3)) := by
    have h0 : RfO W1 (w.heap.size + 1) [] [] [] (.slice (some ⟨w.heap.size + 1, 0, none⟩) 0 0) (W1.alloc (.cells #[] 24)) :=
      ⟨own0 (by rw [hs1]) (by omega), IRows.nil_, rfl, (Below.refl _ _).alloc (by rw [hs1]; exact Nat.le_refl _) _, by simp; omega⟩
    exact h0.new (by simp [hs1])
  rw [hW1] at hR0
  go_enter Tryz.func89, Tryz.ntmps89
  go_wp2_with fail
  go_loopw [6, 7, 18] (fun vK vN i wr => ∃ k fin gK cK gN cN, k ≤ a.n ∧ i = .int .i64 (k : Nat) ∧ vK = .slice (some ⟨gK, 0, none⟩) (refTo a cl k).1.length cK ∧ vN = .slice (some ⟨gN, 0, none⟩) k cN ∧ RfO W1 (w.heap.size + 1) (refTo a cl k).1 [(vN, (refTo a cl k).2)] fin vK wr) (fun _ _ i _ => a.n - (intOf i).toNat)
  case atStart => exact ⟨0, [], _, _, _, _, by omega, rfl, rfl, rfl, by rw [hW1]; exact hR0⟩
  case round =>
    clear hR0
    obtain ⟨k, fin, gK, cK, gN, cN, hk, rfl, rfl, rfl, hR⟩ := hrel
    have hnl := Lib.hid (refTo_len (a := a) (cl := cl) k)
    have HSU := Lib.hid (refTo_succ (a := a) (cl := cl) k)
    have hPw := hPB.below hR.below (by omega)
    have f2 := hPw.cell 2
    simp at f2
    by_cases hlt : k < a.n
    · have hCw : Sl wr (· < w.heap.size) 1 C a.n (ints cl) := hC1.keep hR.below.size (fun b hb _ => hR.below.block b (by omega))
      obtain ⟨bC, oC, rfl, _, _, hcC⟩ := hCw.int_at hlt
      generalize refTo a cl k = st at *
      have hstl : Hid (st.2.length = k) := Lib.hid hnl.out.1
      have hKl : st.1.length ≤ k := hnl.out.2
      clear hnl
      have hap : wr.ownsRow (w.heap.size + 1) 3 1 (.slice (some ⟨gN, 0, none⟩) k cN) k (ints st.2) := by have := IRows.head (L := fin) hR.rows; rwa [hstl.out] at this
      have hsz := hR.size
      by_cases hc0 : cl[k]?.getD 0 < 0
      · have HS := Lib.hid (refStep_neg (a := a) (cl := cl) (st := st) (s := k) hc0)
        generalize cl[k]?.getD 0 = c0 at *
        go_wp2_with (at_builtin; refine wpList_app1 elInt rfl (.tmp 25) (.tmp 26) rfl (w.heap.size + 1) _ k (ints st.2) rfl hap #[.int .i64 (-1)] _ rfl (by simp) rfl (by simp [Value.oneCell']) (by omega) (by omega) hsz ?_; intro g5 c5 w5 ho5 hg5 hb5 _ _; have hR5 := hR.app hstl.out.symm ho5 hg5 hb5)
        go_roundw
        case rel => exact ⟨k + 1, fin, gK, cK, g5, c5, by omega, by go_num, by rw [HSU.out, HS.out], rfl, by rw [HSU.out, HS.out]; exact hR5⟩
        case measure => simp [intOf]; omega
      · have hgK : gK < wr.heap.size := (hR.keys.lt gK rfl).2
        have hR3 := (hR.one (u := cl[k]?.getD 0) rfl).alloc (.cells #[.slice (some ⟨wr.heap.size, 0, none⟩) 1 1] 24)
        have hB3 : Blk ((wr.alloc (.cells #[.int .i64 (cl[k]?.getD 0)] 3)).alloc (.cells #[.slice (some ⟨wr.heap.size, 0, none⟩) 1 1] 24)) (wr.heap.size + 1) 24 #[.slice (some ⟨wr.heap.size, 0, none⟩) 1 1] := by
          have := Blk.new (wr.alloc (.cells #[.int .i64 (cl[k]?.getD 0)] 3)) 24 #[.slice (some ⟨wr.heap.size, 0, none⟩) 1 1]
          rwa [size_alloc] at this
        have hPw3 := hPB.below hR3.below (by omega)
        have f3 := hPw3.cell 2
        simp at f3
        obtain ⟨bN, oN, bR, oR, cR, rfl, pN, sN, pR, sR, hcN0, hcR0⟩ := hA2.row9 hf hlt hlt
        have hcN := (hR3.below.cell (p := ⟨bN, oN + k, none⟩) (by simp; omega)).trans hcN0
        have hA2cell := Lib.hid hcR0; clear hcR0 hcN0
        have HNW := Lib.hid (refStep_new (a := a) (cl := cl) (st := st) (s := k) hc0)
        have HOL := Lib.hid (refStep_old (a := a) (cl := cl) (st := st) (s := k) hc0)
        have hRj0 : RfO W1 (w.heap.size + 1) st.1 [(.slice (some ⟨wr.heap.size, 0, none⟩) 1 1, keyTo a cl k 0), (.slice (some ⟨gN, 0, none⟩) k cN, st.2)] fin (.slice (some ⟨gK, 0, none⟩) st.1.length cK) ((wr.alloc (.cells #[.int .i64 (cl[k]?.getD 0)] 3)).alloc (.cells #[.slice (some ⟨wr.heap.size, 0, none⟩) 1 1] 24)) := hR3
        have hc0' : decide (cl[k]?.getD 0 < 0) = false := by simpa using hc0
        clear hc0 hR3 hap
        obtain ⟨wo, rfl⟩ : ∃ wo : World, wo = wr := ⟨_, rfl⟩
        generalize cl[k]?.getD 0 = c0 at *
        go_wp2_with fail
        go_loopw [36] (fun jv wr => ∃ j g c, j ≤ 9 ∧ jv = .int .i64 (j : Nat) ∧ Blk wr (wo.heap.size + 1) 24 #[.slice (some ⟨g, 0, none⟩) (j + 1) c] ∧ RfO W1 (w.heap.size + 1) st.1 [(.slice (some ⟨g, 0, none⟩) (j + 1) c, keyTo a cl k j), (.slice (some ⟨gN, 0, none⟩) k cN, st.2)] fin (.slice (some ⟨gK, 0, none⟩) st.1.length cK) wr) (fun jv _ => 9 - (intOf jv).toNat)
        case atStart => exact ⟨0, _, _, by omega, rfl, hB3, hRj0⟩
        case round =>
          clear hRj0 hB3 hcN f3 hPw3
          obtain ⟨j, gx, cx, hj, rfl, hBx, hRj⟩ := hrel
          have hsj := hRj.size
          have t0 := hBx.cell 0
          simp at t0
          by_cases hj9 : j < 9
          · have HKS := Lib.hid (keyTo_snoc a cl k j)
            have hcx : wr.cell? ⟨bR, oR + j, none⟩ = some (.int .i64 (a.nx k j)) := (hRj.below.cell (p := ⟨bR, oR + j, none⟩) (by simp; omega)).trans (hA2cell.out j hj9)
            have hap : wr.ownsRow (w.heap.size + 1) 3 1 (.slice (some ⟨gx, 0, none⟩) (j + 1) cx) (j + 1) (ints (keyTo a cl k j)) := by have := IRows.head (L := (.slice (some ⟨gN, 0, none⟩) k cN, st.2) :: fin) hRj.rows; rwa [keyTo_len] at this
            obtain ⟨hx1, hx2⟩ := (hf.2.2.2 k hlt).2 j hj9
            by_cases hx0 : a.nx k j < 0
            · have HV := Lib.hid (keyV_neg (cl := cl) hx0)
              have hxe : a.nx k j = -1 := by omega
              rw [hxe] at hcx
              clear hx0 hxe hx1 hx2
              go_wp2_with (at_builtin; refine wpList_app1 elInt rfl (.tmp 46) (.tmp 48) rfl (w.heap.size + 1) _ (j + 1) (ints (keyTo a cl k j)) rfl hap #[.int .i64 (-1)] _ rfl (by simp) rfl (by simp [Value.oneCell']) (by omega) (by omega) hsj ?_; intro g5 c5 w5 ho5 hg5 hb5 _ _; have hB5 := hBx.grown hg5 (own_blk_ne hap hBx (by decide)); have y0 := hB5.cell 0; have z0 := hB5.frozen 0; have hR5 := (hRj.app (n := j + 1) (keyTo_len ..).symm ho5 hg5 hb5); simp at y0)
              have hR6 := hR5.put hB5 (by omega) (by simp [Value.ownBlock]; omega) 0 (.slice (some ⟨g5, 0, none⟩) (j + 1 + 1) c5)
              have hB6 := hB5.set_ 0 (.slice (some ⟨g5, 0, none⟩) (j + 1 + 1) c5)
              go_roundw
              case rel => exact ⟨j + 1, g5, c5, by omega, by go_num, hB6, by rw [HKS.out, HV.out]; exact hR6⟩
              case measure => simp [intOf]; omega
            · have HV := Lib.hid (keyV_pos (cl := cl) hx0)
              have hx0' : decide (0 ≤ a.nx k j) = true := by simp; omega
              have hCw2 : Sl wr (· < w.heap.size) 1 (some ⟨bC, oC, none⟩) a.n (ints cl) := hC1.keep hRj.below.size (fun b hb _ => hRj.below.block b (by omega))
              obtain ⟨b2, o2, hel, _, _, hcc⟩ := hCw2.int_at (k := (a.nx k j).toNat) (by omega)
              injection hel with hel; injection hel with hel1 hel2; subst hel1 hel2
              have hx0'' : 0 ≤ a.nx k j := by omega
              clear hx0 hx1
              generalize a.nx k j = x at *
              generalize cl[x.toNat]?.getD 0 = y at *
              go_wp2_with (at_builtin; refine wpList_app1 elInt rfl (.tmp 46) (.tmp 48) rfl (w.heap.size + 1) _ (j + 1) (ints (keyTo a cl k j)) rfl hap #[.int .i64 y] _ rfl (by simp) rfl (by simp [Value.oneCell']) (by omega) (by omega) hsj ?_; intro g5 c5 w5 ho5 hg5 hb5 _ _; have hB5 := hBx.grown hg5 (own_blk_ne hap hBx (by decide)); have y0 := hB5.cell 0; have z0 := hB5.frozen 0; have hR5 := (hRj.app (n := j + 1) (keyTo_len ..).symm ho5 hg5 hb5); simp at y0)
              have hR6 := hR5.put hB5 (by omega) (by simp [Value.ownBlock]; omega) 0 (.slice (some ⟨g5, 0, none⟩) (j + 1 + 1) c5)
              have hB6 := hB5.set_ 0 (.slice (some ⟨g5, 0, none⟩) (j + 1 + 1) c5)
              go_roundw
              case rel => exact ⟨j + 1, g5, c5, by omega, by go_num, hB6, by rw [HKS.out, HV.out]; exact hR6⟩
              case measure => simp [intOf]; omega
          · obtain rfl : j = 9 := by omega
            have hap : wr.ownsRow (w.heap.size + 1) 3 1 (.slice (some ⟨gx, 0, none⟩) 10 cx) 10 (ints (keyC a cl k)) := by have := IRows.head (L := (.slice (some ⟨gN, 0, none⟩) k cN, st.2) :: fin) hRj.rows; rwa [keyTo_len] at this
            have hSK := hRj.sls
            have hSx : Sl wr (fun _ => True) 1 (some ⟨gx, 0, none⟩) 10 (ints (keyC a cl k)) := Sl.of_own hap (fun _ _ => trivial)
            have hRk : RfO W1 (w.heap.size + 1) st.1 [(.slice (some ⟨gx, 0, none⟩) 10 cx, keyC a cl k), (.slice (some ⟨gN, 0, none⟩) k cN, st.2)] fin (.slice (some ⟨gK, 0, none⟩) st.1.length cK) wr := hRj
            clear hRj
            generalize keyC a cl k = ky at *
            by_cases hfi : findG ky st.1 0 < 0
            · have hfi' : decide (findG ky st.1 0 < 0) = true := by simpa using hfi
              have HS : Hid (refStep a cl st k = (st.1 ++ [ky], st.2 ++ [(st.1.length : Int)])) := Lib.hid (HNW.out hfi)
              clear hfi
              go_wp2_with (first
                | (go_at_call 103; refine (indexRow_any (some ⟨gK, 0, none⟩) (some ⟨gx, 0, none⟩) st.1.length cK 10 cx (wo.heap.size + 1) st.1 ky wr _ _ hSK hSx hBx).mono ?_; rintro e w4 ⟨rfl, d4, rfl⟩; have hR4 := hRk.drewN d4; have hs4 := hR4.size)
                | (at_builtin; refine wpList_app1 elRow rfl (.tmp 58) (.tmp 60) rfl (w.heap.size + 1) _ st.1.length (fin.map Prod.fst) rfl hR4.keys #[.slice (some ⟨gx, 0, none⟩) 10 cx] _ rfl (by simp) rfl (by simp [Value.oneCell']) (by omega) (by omega) hs4 ?_; intro g5 c5 w5 ho5 hg5 hb5 _ _; have hR5 := hR4.push ho5 hg5; have hs5 := hR5.size)
                | (at_builtin; refine wpList_app1 elInt rfl (.tmp 62) (.tmp 64) rfl (w.heap.size + 1) _ k (ints st.2) rfl (by have := IRows.head (L := fin ++ [(.slice (some ⟨gx, 0, none⟩) 10 cx, ky)]) hR5.rows; rwa [hstl.out] at this) #[.int .i64 (st.1.length : Nat)] _ rfl (by simp) rfl (by simp [Value.oneCell']) (by omega) (by omega) hs5 ?_; intro g6 c6 w6 ho6 hg6 hb6 _ _; have hR6 := hR5.app hstl.out.symm ho6 hg6 hb6))
              go_roundw
              case rel => exact ⟨k + 1, fin ++ [(.slice (some ⟨gx, 0, none⟩) 10 cx, ky)], g5, c5, g6, c6, by omega, by go_num, by rw [HSU.out, HS.out]; simp, rfl, by rw [HSU.out, HS.out]; exact hR6⟩
              case measure => simp [intOf]; omega
            · have hfi' : decide (findG ky st.1 0 < 0) = false := by simpa using hfi
              have HS : Hid (refStep a cl st k = (st.1, st.2 ++ [findG ky st.1 0])) := Lib.hid (HOL.out (by omega))
              clear hfi
              go_wp2_with (first
                | (go_at_call 103; refine (indexRow_any (some ⟨gK, 0, none⟩) (some ⟨gx, 0, none⟩) st.1.length cK 10 cx (wo.heap.size + 1) st.1 ky wr _ _ hSK hSx hBx).mono ?_; rintro e w4 ⟨rfl, d4, rfl⟩; have hR4 := (hRk.drewN d4).drop; have hs4 := hR4.size)
                | (at_builtin; refine wpList_app1 elInt rfl (.tmp 62) (.tmp 64) rfl (w.heap.size + 1) _ k (ints st.2) rfl (by have := IRows.head (L := fin) hR4.rows; rwa [hstl.out] at this) #[.int .i64 (findG ky st.1 0)] _ rfl (by simp) rfl (by simp [Value.oneCell']) (by omega) (by omega) hs4 ?_; intro g6 c6 w6 ho6 hg6 hb6 _ _; have hR6 := hR4.app hstl.out.symm ho6 hg6 hb6))
              go_roundw
              case rel => exact ⟨k + 1, fin, gK, cK, g6, c6, by omega, by go_num, by rw [HSU.out, HS.out], rfl, by rw [HSU.out, HS.out]; exact hR6⟩
              case measure => simp [intOf]; omega
    · obtain rfl : k = a.n := by omega
      have hap : wr.ownsRow (w.heap.size + 1) 3 1 (.slice (some ⟨gN, 0, none⟩) a.n cN) a.n (ints (refTo a cl a.n).2) := by have := IRows.head (L := fin) hR.rows; rwa [hnl.out.1] at this
      go_wp2
      go_ret2
      exact ⟨_, rfl, hap.mono (by omega), hW.trans (hR.below.mono (by omega))⟩
end Go.Proofs.YtmnhpbbapkcdjaaGreat

/- Walks: valid automata; running a word. -/
namespace Go.Proofs.YtmnhpbbapkcdjaaGreat
open Go.RowKit

theorem specValid_any (a : Aut) (v : Value) (w : World) (p : Nat → Prop) (h : AutV w p v a) :
    Calls Tryz.prog 20 #[v] w fun e w' => e = .returned (.bool (validB a)) ∧ Below w.heap.size w w' := by
  obtain ⟨A1, n1, c1, A2, n2, c2, rfl, h1, h2⟩ := id h
  obtain rfl : a.n = n1 := h1.lenb
  have hm1 : a.n ≤ 9223372036854775807 := by have := h1.2.1; unfold maxLen at this; omega
  clear h1 h2
  have ha := h.keep (w' := w.alloc (.cells #[.int .i64 a.start, .slice A1 a.n c1, .slice A2 n2 c2] 31)) (by simp) (fun b _ hb => Below.heap_alloc w _ b hb)
  have hb := below_alloc w (.cells #[.int .i64 a.start, .slice A1 a.n c1, .slice A2 n2 c2] 31)
  by_cases h12 : a.n ≤ 12
  · have Hr := Lib.hid (show validB a = fitsB a by simp [validB, h12])
    go_enter Tryz.func20, Tryz.ntmps20
    go_wp2_with (go_at_call 46; refine (l11Fits_any a _ _ p ha).mono ?_; rintro e w1 ⟨rfl, hb1⟩)
    go_ret
    exact ⟨by rw [Hr.out]; rfl, hb.trans (hb1.mono (by simp))⟩
  · have hd : decide ((a.n : Int) ≤ 12) = false := by simp; omega
    have Hr := Lib.hid (show validB a = false by simp [validB, h12])
    go_enter Tryz.func20, Tryz.ntmps20
    go_wp2
    go_ret
    exact ⟨by rw [Hr.out]; rfl, hb⟩

set_option maxRecDepth 100000 in
theorem implValid_any (a : Aut) (v : Value) (w : World) (p : Nat → Prop) (h : AutV w p v a) :
    Calls Tryz.prog 38 #[v] w fun e w' => e = .returned (.bool (validB a)) ∧ Below w.heap.size w w' := by
  obtain ⟨A1, n1, c1, A2, n2, c2, rfl, h1, h2⟩ := h
  obtain rfl : a.n = n1 := h1.lenb
  have hl2 := h2.len
  have hm1 : a.n ≤ 9223372036854775807 := by have := h1.2.1; unfold maxLen at this; omega
  have hm2 : n2 ≤ 9223372036854775807 := by have := h2.le; unfold maxLen at this; omega
  clear h1
  have h2 := h2.alloc (.cells #[.int .i64 a.start, .slice A1 a.n c1, .slice A2 n2 c2] 31)
  have hb := below_alloc w (.cells #[.int .i64 a.start, .slice A1 a.n c1, .slice A2 n2 c2] 31)
  cases hi1 : inB a.n 1 12 with
  | false =>
    have Hr := Lib.hid ((validB_no (a := a)).2 fun hf => inB_no.1 hi1 (by have := hf.2.pos; have := hf.1; omega))
    clear hl2 h2
    go_enter Tryz.func38, Tryz.ntmps38
    go_wp2_with (go_at_call 56; refine (within_any _ _ _ _).mono ?_; rintro e w' ⟨rfl, rfl⟩)
    go_ret
    exact ⟨by rw [Hr.out]; rfl, hb⟩
  | true =>
    have H12 := Lib.hid (inB_iff.1 hi1)
    cases hst : inB a.start 0 (↑a.n - 1) with
    | false =>
      have Hr := Lib.hid ((validB_no (a := a)).2 fun hf => inB_no.1 hst ⟨hf.2.1, by have := hf.2.2.1; omega⟩)
      clear hl2 h2
      go_enter Tryz.func38, Tryz.ntmps38
      go_wp2_with (go_at_call 56; refine (within_any _ _ _ _).mono ?_; rintro e w' ⟨rfl, rfl⟩)
      go_ret
      exact ⟨by rw [Hr.out]; rfl, hb⟩
    | true =>
      have Hst := Lib.hid (inB_iff.1 hst)
      by_cases hn : n2 = a.n
      · subst hn
        have Hl := Lib.hid hl2; clear hl2
        go_enter Tryz.func38, Tryz.ntmps38
        go_wp2_with (go_at_call 56; refine (within_any _ _ _ _).mono ?_; rintro e w' ⟨rfl, rfl⟩)
        go_loop [32] (fun i => ∃ k : Nat, k ≤ a.n ∧ i = .int .i64 k ∧ RowsOk a k) (fun i => a.n - (intOf i).toNat)
        case atStart => exact ⟨0, Nat.zero_le _, rfl, RowsOk.zero a⟩
        case round =>
          obtain ⟨k1, hk1, rfl, hI1⟩ := hrel
          by_cases hlt : k1 < a.n
          · obtain ⟨bN, oN, A', m, c', rfl, hcN, hm, hm3, hx⟩ := h2.nx_at2 hlt
            have Hm := Lib.hid hm; clear hm
            go_wp2_with fail
            go_loop [38] (fun i => ∃ k : Nat, k ≤ m ∧ i = .int .i64 k ∧ NxOk a k1 k) (fun i => m - (intOf i).toNat)
            case atStart => exact ⟨0, by omega, rfl, NxOk.zero a k1⟩
            case round =>
              obtain ⟨k2, hk2, rfl, hI2⟩ := hrel
              by_cases hlt2 : k2 < m
              · obtain ⟨bR, oR, rfl, hcR⟩ := hx k2 hlt2
                clear hx
                cases hb2 : inB (a.nx k1 k2) (-1) (↑a.n - 1) with
                | false =>
                  have Hr := Lib.hid ((validB_no (a := a)).2 fun hf => inB_no.1 hb2 (by have h9 := hf.2.2.2.2 k1 hlt; have := h9.2 k2 (by rw [← h9.1, ← Hm.out]; exact hlt2); omega))
                  go_wp2_with (go_at_call 56; refine (within_any _ _ _ _).mono ?_; rintro e w' ⟨rfl, rfl⟩)
                  go_ret
                  exact ⟨by rw [Hr.out]; rfl, hb⟩
                | true =>
                  go_wp2_with (go_at_call 56; refine (within_any _ _ _ _).mono ?_; rintro e w' ⟨rfl, rfl⟩)
                  go_round
                  case rel => exact ⟨k2 + 1, by omega, by go_num, hI2.succ (by have := inB_iff.1 hb2; omega)⟩
                  case measure => simp [intOf]; omega
              · obtain rfl : k2 = m := by omega
                clear hx
                by_cases hm9 : k2 = 9
                · subst hm9
                  go_wp2
                  go_round
                  case rel => exact ⟨k1 + 1, by omega, by go_num, hI1.succ ⟨Hm.out.symm, hI2⟩⟩
                  case measure => simp [intOf]; omega
                · have Hr := Lib.hid ((validB_no (a := a)).2 fun hf => hm9 (by rw [Hm.out]; exact (hf.2.2.2.2 k1 hlt).1))
                  go_wp2
                  go_ret
                  exact ⟨by rw [Hr.out]; rfl, hb⟩
          · obtain rfl : k1 = a.n := by omega
            have Hr := Lib.hid ((validB_iff (a := a)).2 ⟨by have := H12.out.2; omega, Hst.out.1, by have := Hst.out.2; omega, Hl.out, hI1⟩)
            go_wp2
            go_ret
            exact ⟨by rw [Hr.out]; rfl, hb⟩
      · have Hr := Lib.hid ((validB_no (a := a)).2 fun hf => hn (by rw [← hl2]; exact hf.2.2.2.1))
        clear hl2 h2
        go_enter Tryz.func38, Tryz.ntmps38
        go_wp2_with (go_at_call 56; refine (within_any _ _ _ _).mono ?_; rintro e w' ⟨rfl, rfl⟩)
        go_ret
        exact ⟨by rw [Hr.out]; rfl, hb⟩
end Go.Proofs.YtmnhpbbapkcdjaaGreat

/- Walks: running a word. -/
namespace Go.Proofs.YtmnhpbbapkcdjaaGreat
open Go.RowKit

def runI (a : Aut) (s : Int) (ws : List Int) : Int := ws.foldl (mvI a) s
theorem mvI_lt {a : Aut} (hf : a.Fits) {s : Int} (hs : s < a.n) (k : Int) : -1 ≤ mvI a s k ∧ mvI a s k < a.n := by
  have hp := hf.pos
  unfold mvI
  split
  · rename_i h
    have := isL_iff.1 h.2
    exact (hf.2.2.2 s.toNat (by omega)).2 k.toNat (by omega)
  · omega
theorem mvI_neg {a : Aut} {s : Int} (hs : s < 0) (k : Int) : mvI a s k = -1 := by unfold mvI; rw [if_neg (by omega)]
theorem runI_neg {a : Aut} : ∀ (ws : List Int), runI a (-1) ws = -1
  | [] => rfl
  | k :: ws => by show runI a (mvI a (-1) k) ws = -1; rw [mvI_neg (by omega)]; exact runI_neg ws
theorem runI_step {a : Aut} {s : Int} {ws : List Int} {i : Nat} (hi : i < ws.length) : runI a s (ws.drop i) = runI a (mvI a s (ws[i]?.getD 0)) (ws.drop (i + 1)) := by
  unfold runI; rw [List.drop_eq_getElem_cons hi, List.foldl_cons, List.getElem?_eq_getElem hi]; rfl
theorem runI_end {a : Aut} {s : Int} {ws : List Int} {i : Nat} (hi : ws.length ≤ i) : runI a s (ws.drop i) = s := by
  rw [List.drop_eq_nil_of_le hi]; rfl

theorem Sl.int_atI {w : World} {p : Nat → Prop} {n : Nat} {A : Option Addr} {zs : List Int} {k : Int} (h : Sl w p 1 A n (ints zs)) (h0 : 0 ≤ k) (hk : k < n) :
    ∃ b off, A = some ⟨b, off, none⟩ ∧ w.cell? ⟨b, off + k.toNat, none⟩ = some (.int .i64 (zs[k.toNat]?.getD 0)) := by
  obtain ⟨b, off, rfl, _, _, hc⟩ := h.int_at (k := k.toNat) (by omega)
  exact ⟨b, off, rfl, hc⟩

set_option maxRecDepth 100000 in
theorem l11Run_any (a : Aut) (v : Value) (s : Int) (B : Option Addr) (n c : Nat) (ws : List Int) (w : World) (p q : Nat → Prop) (h : AutV w p v a) (hf : a.Fits) (hs0 : -1 ≤ s) (hs : s < a.n) (hw : Sl w q 1 B n (ints ws)) :
    Calls Tryz.prog 45 #[v, .int .i64 s, .slice B n c] w fun e w' => e = .returned (.int .i64 (runI a s ws)) ∧ Below w.heap.size w w' := by
  obtain ⟨A1, c1, A2, c2, rfl, h1, h2⟩ := h.fit hf
  have hm1 : a.n ≤ 9223372036854775807 := by have := h1.2.1; unfold maxLen at this; omega
  have hm2 : n ≤ 9223372036854775807 := by have := hw.2.1; unfold maxLen at this; omega
  have Hl := Lib.hid hw.len1
  clear h1
  have h2 := h2.alloc (.cells #[.int .i64 a.start, .slice A1 a.n c1, .slice A2 a.n c2] 31)
  have hw := hw.alloc (.cells #[.int .i64 a.start, .slice A1 a.n c1, .slice A2 a.n c2] 31)
  have hb := below_alloc w (.cells #[.int .i64 a.start, .slice A1 a.n c1, .slice A2 a.n c2] 31)
  have HF := Lib.hid hf; clear hf
  have Hp : Hid (∃ ss, ss = s) := Lib.hid ⟨s, rfl⟩
  go_enter Tryz.func45, Tryz.ntmps45
  go_wp2_with fail
  go_loopw [1, 7] (fun t i wr => ∃ (x : Int) (k d : Nat), k ≤ n ∧ i = .int .i64 k ∧ t = .int .i64 x ∧ -1 ≤ x ∧ x < a.n ∧ runI a s ws = runI a x (ws.drop k) ∧ wr = (w.alloc (.cells #[.int .i64 a.start, .slice A1 a.n c1, .slice A2 a.n c2] 31)).drewN d) (fun _ i _ => n - (intOf i).toNat)
  case atStart => exact ⟨s, 0, 0, Nat.zero_le _, rfl, rfl, hs0, hs, rfl, rfl⟩
  case round =>
    obtain ⟨x, k, d, hk, rfl, rfl, hx0, hx1, hr, rfl⟩ := hrel
    have Hr := Lib.hid hr; clear hr
    by_cases hlt : k < n
    · by_cases hx : 0 ≤ x
      · obtain ⟨bw, ow, rfl, _, _, hcw⟩ := hw.int_at hlt
        have Hs := Lib.hid (runI_step (a := a) (s := x) (by rw [Hl.out]; exact hlt))
        generalize ws[k]?.getD 0 = l at *
        cases hl : isL l with
        | false =>
          have He := Lib.hid (show runI a s ws = -1 by rw [Hr.out, Hs.out]; rw [show mvI a x l = -1 by unfold mvI; rw [if_neg (by simp [hl])]]; exact runI_neg _)
          go_wp2_with (go_at_call 34; refine (l2Letter_any _ _).mono ?_; rintro e w' ⟨rfl, rfl⟩)
          go_ret
          exact ⟨by rw [He.out]; rfl, below_drewN hb _⟩
        | true =>
          obtain ⟨l0, l8⟩ := isL_iff.1 hl
          obtain ⟨bN, oN, bR, oR, cR, rfl, hcN, hcR, hy1, hy2⟩ := h2.nx_atI HF.out hx hx1 l0 (by omega)
          have Hm := Lib.hid (show mvI a x l = a.nx x.toNat l.toNat by unfold mvI; rw [if_pos ⟨hx, hl⟩])
          have hl9 : l < 9 := by omega
          have hkn : (k : Int) < (n : Int) := by omega
          go_wp2_with (go_at_call 34; refine (l2Letter_any _ _).mono ?_; rintro e w' ⟨rfl, rfl⟩)
          go_quiet (fail)
          go_wp2
          go_roundw
          case rel => exact ⟨_, k + 1, _, by omega, by go_num, rfl, hy1, hy2, by rw [Hr.out, Hs.out, Hm.out], rfl⟩
          case measure => simp [intOf]; omega
      · obtain rfl : x = -1 := by omega
        have He := Lib.hid (show runI a s ws = -1 by rw [Hr.out]; exact runI_neg _)
        go_wp2
        go_ret
        exact ⟨by rw [He.out]; rfl, below_drewN hb _⟩
    · have He := Lib.hid (show runI a s ws = x by rw [Hr.out]; exact runI_end (by rw [Hl.out]; omega))
      go_wp2
      go_ret
      exact ⟨by rw [He.out]; rfl, below_drewN hb _⟩

noncomputable def runWB (a : Aut) (ws : List Int) : Int := if validB a = true then runI a a.start ws else -1
noncomputable def accWB (a : Aut) (ws : List Int) : Bool := acB a (runWB a ws)
theorem runI_lt {a : Aut} (hf : a.Fits) : ∀ (ws : List Int) {s : Int}, -1 ≤ s → s < a.n → -1 ≤ runI a s ws ∧ runI a s ws < a.n
  | [], s, h0, h1 => ⟨h0, h1⟩
  | k :: ws, s, h0, h1 => runI_lt hf ws (mvI_lt hf h1 k).1 (mvI_lt hf h1 k).2
theorem runWB_lt {a : Aut} (ws : List Int) : -1 ≤ runWB a ws ∧ runWB a ws < a.n := by
  unfold runWB
  split
  · rename_i h
    have hf := (validB_iff.1 h).2
    exact runI_lt hf ws (by have := hf.1; omega) hf.2.1
  · omega

theorem specRun_any (a : Aut) (v : Value) (B : Option Addr) (n c : Nat) (ws : List Int) (w : World) (p q : Nat → Prop) (h : AutV w p v a) (hw : Sl w q 1 B n (ints ws)) :
    Calls Tryz.prog 19 #[v, .slice B n c] w fun e w' => e = .returned (.int .i64 (runWB a ws)) ∧ Below w.heap.size w w' := by
  obtain ⟨A1, n1, c1, A2, n2, c2, hv, _, _⟩ := id h
  have ha := h.alloc (.cells #[.int .i64 a.start, .slice A1 n1 c1, .slice A2 n2 c2] 31)
  have hb := below_alloc w (.cells #[.int .i64 a.start, .slice A1 n1 c1, .slice A2 n2 c2] 31)
  have hw := hw.alloc (.cells #[.int .i64 a.start, .slice A1 n1 c1, .slice A2 n2 c2] 31)
  subst hv
  cases hV : validB a with
  | false =>
    have He := Lib.hid (show runWB a ws = -1 by unfold runWB; rw [if_neg (by simp [hV])])
    go_enter Tryz.func19, Tryz.ntmps19
    go_wp2_with (go_at_call 20; refine (specValid_any a _ _ p ha).mono ?_; rintro e w1 ⟨rfl, hb1⟩)
    go_ret
    exact ⟨by rw [He.out]; rfl, hb.trans (hb1.mono (by simp))⟩
  | true =>
    have hf := (validB_iff.1 hV).2
    have He := Lib.hid (show runWB a ws = runI a a.start ws by unfold runWB; rw [if_pos hV])
    go_enter Tryz.func19, Tryz.ntmps19
    go_wp2_with fail
    refine (specValid_any a _ _ p ha).mono ?_; rintro e w1 ⟨rfl, hb1⟩
    obtain ⟨e0, e1, e2, hlt, _⟩ := box3 (Blk.new w _ _) hb1
    have ha1 := ha.below hb1
    have hw1 := hw.keep hb1.size (fun b _ hb => hb1.block b hb)
    have hb2 := hb.trans (hb1.mono (by simp))
    have hs0 : -1 ≤ a.start := by have := hf.1; omega
    go_wp2_with fail
    refine (l11Run_any a _ a.start B n c ws w1 p q ha1 hf hs0 hf.2.1 hw1).mono ?_; rintro e w2 ⟨rfl, hb3⟩
    go_wp2
    go_ret
    exact ⟨by rw [He.out]; rfl, hb2.trans (hb3.mono (by omega))⟩
end Go.Proofs.YtmnhpbbapkcdjaaGreat
