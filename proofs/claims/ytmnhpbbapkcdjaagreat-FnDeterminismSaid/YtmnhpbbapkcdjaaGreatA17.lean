/- Walks: the specification's numbering of an automaton's states by classes. No condition. -/
import Derived.Test.YtmnhpbbapkcdjaaGreatA16

/- Walks: the specification's numbering of an automaton's states by classes. -/
namespace Go.Proofs.YtmnhpbbapkcdjaaGreat
open Go.RowKit

structure NbR (a : Aut) (cls : List Int) (o : List Bool) (w2 : World) (base go i : Nat) (ls : List Int) (acc : List Bool) (fin : List (Value × List Int)) (va vn vo vr : Value) (wr : World) : Prop where
  run : numC a cls o = numRunC (cfun cls) (nnx a o) (nac a) (a.n + 1 - i) i ls acc (fin.map Prod.snd)
  le : i ≤ ls.length
  fnd : Found a cls o ls
  mo : NMo w2 base acc (fin.map Prod.fst) va vn go wr
  rows : IRows wr base ((vo, ls.map (cfun cls)) :: (vr, ls) :: fin)
  al : acc.length = i
  fl : fin.length = i
def NbRel (a : Aut) (cls : List Int) (o : List Bool) (w2 : World) (base go : Nat) (vo vr iv : Value) (wr : World) : Prop :=
  ∃ i ls acc fin va vn g c g' c', iv = .int .i64 (i : Nat) ∧ vo = .slice (some ⟨g, 0, none⟩) ls.length c ∧ vr = .slice (some ⟨g', 0, none⟩) ls.length c' ∧ NbR a cls o w2 base go i ls acc fin va vn vo vr wr
def nbW2 (w : World) (cs : Array Value) : World := (w.alloc (.cells cs 31)).alloc (.cells #[.int .i64 0, .slice none 0 0, .slice none 0 0] 31)
theorem nbW2_size (w : World) (cs : Array Value) : (nbW2 w cs).heap.size = w.heap.size + 1 + 1 := by simp [nbW2]
theorem nbRel_start (a : Aut) (cls : List Int) (o : List Bool) (w : World) (cs : Array Value) (h0 : 0 ≤ a.start) (h1 : a.start < a.n) (h2 : o[a.start.toNat]?.getD false = true) :
    NbRel a cls o (nbW2 w cs) (w.heap.size + 1 + 1) (w.heap.size + 1 + 1) (.slice (some ⟨w.heap.size + 1 + 1 + 1, 0, none⟩) 1 1) (.slice (some ⟨w.heap.size + 1 + 1 + 1 + 1, 0, none⟩) 1 1) (.int .i64 0)
      ((((nbW2 w cs).alloc (.cells #[.int .i64 0, .slice none 0 0, .slice none 0 0] 31)).alloc (.cells #[.int .i64 (cls[a.start.toNat]?.getD 0)] 3)).alloc (.cells #[.int .i64 a.start] 3)) := by
  have hm := (nm_start (nbW2 w cs) (cls[a.start.toNat]?.getD 0)).alloc (.cells #[.int .i64 a.start] 3)
  have hr := IRows.one (u := cls[a.start.toNat]?.getD 0) (g := (nbW2 w cs).heap.size + 1) (base := (nbW2 w cs).heap.size) (w := (nbW2 w cs).alloc (.cells #[.int .i64 0, .slice none 0 0, .slice none 0 0] 31)) IRows.nil_ (by simp) (by omega)
  have hr2 := IRows.one (u := a.start) (g := (nbW2 w cs).heap.size + 1 + 1) hr (by simp) (by omega)
  have hr3 := hr2.perm (List.Perm.swap _ _ _)
  rw [nbW2_size] at hm hr3
  exact ⟨0, [a.start], [], [], _, _, _, _, _, _, rfl, rfl, rfl, rfl, by simp, ⟨fun x hx => by simp at hx; subst hx; exact ⟨h0, h1, h2⟩, by simp⟩, hm, hr3, rfl, rfl⟩

set_option maxHeartbeats 2000000 in
set_option maxRecDepth 100000 in
theorem l11Number_any (a : Aut) (v : Value) (cls : List Int) (o : List Bool) (C L : Option Addr) (cC cL : Nat) (w : World) (p q r : Nat → Prop) (h : AutV w p v a) (hf : a.Fits) (hC : Sl w q 1 C a.n (ints cls)) (hL : Sl w r 1 L a.n (bools o)) (hn : a.n ≤ 1000)
    (hcl : ∀ s, s < a.n → o[s]?.getD false = true → 0 ≤ cls[s]?.getD 0 ∧ cls[s]?.getD 0 < a.n) :
    Calls Tryz.prog 41 #[v, .slice C a.n cC, .slice L a.n cL] w fun e w' => AutRes w w' (numAut a cls o) e := by
  obtain ⟨A1, c1, A2, c2, rfl, h1, h2⟩ := h.fit hf
  have hpos := hf.pos
  have hst0 := hf.1
  have hst1 := hf.2.1
  have hA1 : Sl (nbW2 w #[.int .i64 a.start, .slice A1 a.n c1, .slice A2 a.n c2]) (· < w.heap.size) 1 A1 a.n (bools a.acc) := ((h1.weak (fun _ _ h => h)).alloc _).alloc _
  have hA2 : Sls (nbW2 w #[.int .i64 a.start, .slice A1 a.n c1, .slice A2 a.n c2]) (· < w.heap.size) A2 a.n a.next := ((h2.weak (fun _ _ h => h)).alloc _).alloc _
  have hC2 : Sl (nbW2 w #[.int .i64 a.start, .slice A1 a.n c1, .slice A2 a.n c2]) (· < w.heap.size) 1 C a.n (ints cls) := ((hC.weak (fun _ _ h => h)).alloc _).alloc _
  have hL2 : Sl (nbW2 w #[.int .i64 a.start, .slice A1 a.n c1, .slice A2 a.n c2]) (· < w.heap.size) 1 L a.n (bools o) := ((hL.weak (fun _ _ h => h)).alloc _).alloc _
  have hPB : Blk (nbW2 w #[.int .i64 a.start, .slice A1 a.n c1, .slice A2 a.n c2]) w.heap.size 31 #[.int .i64 a.start, .slice A1 a.n c1, .slice A2 a.n c2] := (Blk.new _ _ _).alloc _
  have hRB : Blk (nbW2 w #[.int .i64 a.start, .slice A1 a.n c1, .slice A2 a.n c2]) (w.heap.size + 1) 31 #[.int .i64 0, .slice none 0 0, .slice none 0 0] := by
    have := Blk.new (w.alloc (.cells #[.int .i64 a.start, .slice A1 a.n c1, .slice A2 a.n c2] 31)) 31 #[.int .i64 0, .slice none 0 0, .slice none 0 0]
    rwa [size_alloc] at this
  have hW : Below w.heap.size w (nbW2 w #[.int .i64 a.start, .slice A1 a.n c1, .slice A2 a.n c2]) := below_alloc2 _ _ _
  have hC3 : Sl ((nbW2 w #[.int .i64 a.start, .slice A1 a.n c1, .slice A2 a.n c2]).alloc (.cells #[.int .i64 0, .slice none 0 0, .slice none 0 0] 31)) (· < w.heap.size) 1 C a.n (ints cls) := hC2.alloc _
  have hL3 : Sl ((nbW2 w #[.int .i64 a.start, .slice A1 a.n c1, .slice A2 a.n c2]).alloc (.cells #[.int .i64 0, .slice none 0 0, .slice none 0 0] 31)) (· < w.heap.size) 1 L a.n (bools o) := hL2.alloc _
  obtain ⟨bL, oL, rfl, _, _, hcL⟩ := hL2.bool_at (k := a.start.toNat) (by omega)
  obtain ⟨bC, oC, rfl, _, _, hcC⟩ := hC3.int_at (k := a.start.toNat) (by omega)
  have HCL := Lib.hid hcl; have HF := Lib.hid hf
  clear h h1 h2 hC hL hcl hf
  cases hlv : o[a.start.toNat]?.getD false with
  | false =>
    have hNA : Hid (numAut a cls o = nothingAut) := Lib.hid (by unfold numAut; rw [hlv]; rfl)
    rw [hlv] at hcL
    clear hlv
    have hcL' : ((w.alloc (.cells #[.int .i64 a.start, .slice A1 a.n c1, .slice A2 a.n c2] 31)).alloc (.cells #[.int .i64 0, .slice none 0 0, .slice none 0 0] 31)).cell? ⟨bL, oL + a.start.toNat, none⟩ = some (.bool false) := hcL
    go_enter Tryz.func41, Tryz.ntmps41
    go_wp2_with fail
    refine (l11Nothing_any _).mono ?_
    rintro e w3 ⟨v, rfl, hv, hb3⟩
    obtain ⟨A3, n3, c3, A4, n4, c4, rfl, hs3, hs4⟩ := id hv
    have hRB3 := hRB.below hb3 hRB.lt
    have q0 := hRB3.cell 0; have q1 := hRB3.cell 1; have q2 := hRB3.cell 2
    simp at q0 q1 q2
    have z0 := hRB3.frozen 0; have z1 := hRB3.frozen 1; have z2 := hRB3.frozen 2
    have hsz : w.heap.size + 1 + 1 ≤ w3.heap.size := by have := hb3.size; simp at this; omega
    have hbz : Below w.heap.size w w3 := hW.trans (hb3.mono (by simp; omega))
    go_wp2
    refine bodyPost_ret (v := .agg #[.int .i64 nothingAut.start, .slice A3 n3 c3, .slice A4 n4 c4]) (by simp [results, Tryz.results41, go_sem, q0, q1, q2]) rfl ?_
    refine ⟨_, rfl, ?_, ((hbz.setCell (by simp) _).setCell (by simp) _).setCell (by simp) _⟩
    rw [hNA.out]
    refine (hv.keep (w' := _) (by simp) (fun b hb _ => ?_)).weak (fun b hb _ => by have hb : _ ≤ b := hb; simp at hb; show w.heap.size ≤ b; omega)
    have hb : _ ≤ b := hb
    simp at hb
    rw [Below.heap_setCell _ _ _ _ (by simp; omega), Below.heap_setCell _ _ _ _ (by simp; omega), Below.heap_setCell _ _ _ _ (by simp; omega)]
  | true =>
    have hR0 := nbRel_start a cls o w #[.int .i64 a.start, .slice A1 a.n c1, .slice A2 a.n c2] hst0 hst1 hlv
    have hNA : Hid (numAut a cls o = ⟨0, (numC a cls o).1, (numC a cls o).2⟩) := Lib.hid (by unfold numAut; rw [if_pos hlv])
    rw [hlv] at hcL
    clear hlv
    have hcC' : (((w.alloc (.cells #[.int .i64 a.start, .slice A1 a.n c1, .slice A2 a.n c2] 31)).alloc (.cells #[.int .i64 0, .slice none 0 0, .slice none 0 0] 31)).alloc (.cells #[.int .i64 0, .slice none 0 0, .slice none 0 0] 31)).cell? ⟨bC, oC + a.start.toNat, none⟩ = some (.int .i64 (cls[a.start.toNat]?.getD 0)) := hcC
    generalize hsc : cls[a.start.toNat]?.getD 0 = sc at hcC' hR0
    clear hcC
    have hcL' : ((w.alloc (.cells #[.int .i64 a.start, .slice A1 a.n c1, .slice A2 a.n c2] 31)).alloc (.cells #[.int .i64 0, .slice none 0 0, .slice none 0 0] 31)).cell? ⟨bL, oL + a.start.toNat, none⟩ = some (.bool true) := hcL
    go_enter Tryz.func41, Tryz.ntmps41
    go_wp2_with fail
    have hgoB : Hid (Blk (nbW2 w #[.int .i64 a.start, .slice A1 a.n c1, .slice A2 a.n c2]) w.heap.size 31 #[.int .i64 a.start, .slice A1 a.n c1, .slice A2 a.n c2]) := Lib.hid hPB
    go_loopw [8, 9, 10] (fun vo vr iv wr => NbRel a cls o (nbW2 w #[.int .i64 a.start, .slice A1 a.n c1, .slice A2 a.n c2]) (w.heap.size + 1 + 1) (w.heap.size + 1 + 1) vo vr iv wr) (fun _ _ i _ => a.n + 1 - (intOf i).toNat)
    case atStart => exact hR0
    case round =>
      clear hR0 hcL' hcC' hcL hC3 hL3 hgoB
      generalize nbW2 w #[.int .i64 a.start, .slice A1 a.n c1, .slice A2 a.n c2] = W2 at *
      obtain ⟨i, ls, acc, fin, va, vn, g1, c1', g2, c2', rfl, rfl, rfl, hI⟩ := hrel
      obtain ⟨wo, rfl⟩ : ∃ wo : World, wo = wr := ⟨_, rfl⟩
      have hll : ls.length ≤ a.n := hI.fnd.len HCL.out
      by_cases hlt : i < ls.length
      · have hrow := IRows.new hI.rows (g := wo.heap.size) rfl (by have := hI.mo.below.size; have := hI.mo.size; omega)
        have hrow := hrow.perm (perm3 _ _ _ _).symm
        have hmo := hI.mo.alloc (.cells #[] 3)
        have hfnd := Lib.hid hI.fnd
        go_wp2_with fail
        go_loopw [8, 9, 11, 12] (fun vo vr vw kv wr => ∃ k g1 c1 g2 c2 g3 c3, k ≤ 9 ∧ kv = .int .i64 (k : Nat) ∧ vo = .slice (some ⟨g1, 0, none⟩) (upto (rowStepC (cfun cls) (nnx a o) (ls[i]?.getD 0)) (ls, []) k).1.length c1 ∧ vr = .slice (some ⟨g2, 0, none⟩) (upto (rowStepC (cfun cls) (nnx a o) (ls[i]?.getD 0)) (ls, []) k).1.length c2 ∧ vw = .slice (some ⟨g3, 0, none⟩) k c3 ∧
            IRows wr (w.heap.size + 1 + 1) ((vo, (upto (rowStepC (cfun cls) (nnx a o) (ls[i]?.getD 0)) (ls, []) k).1.map (cfun cls)) :: (vr, (upto (rowStepC (cfun cls) (nnx a o) (ls[i]?.getD 0)) (ls, []) k).1) :: (vw, (upto (rowStepC (cfun cls) (nnx a o) (ls[i]?.getD 0)) (ls, []) k).2) :: fin) ∧ NMo W2 (w.heap.size + 1 + 1) acc (fin.map Prod.fst) va vn (w.heap.size + 1 + 1) wr ∧
            Hid (Found a cls o (upto (rowStepC (cfun cls) (nnx a o) (ls[i]?.getD 0)) (ls, []) k).1)) (fun _ _ _ k _ => 9 - (intOf k).toNat)
        case atStart => exact ⟨0, _, _, _, _, _, _, by omega, rfl, rfl, rfl, rfl, hrow, hmo, hfnd⟩
        case round =>
          obtain ⟨k, g1, c1', g2, c2', g3, c3', hk, rfl, rfl, rfl, rfl, hR, hM, hFd⟩ := hrel
          clear hrow hmo hfnd
          have HPL := Lib.hid (upto_rowC (cl := cfun cls) (nx := nnx a o) (s := ls[i]?.getD 0) (ls := ls) k)
          have HSU : Hid (upto (rowStepC (cfun cls) (nnx a o) (ls[i]?.getD 0)) (ls, []) (k + 1) = rowStepC (cfun cls) (nnx a o) (ls[i]?.getD 0) (upto (rowStepC (cfun cls) (nnx a o) (ls[i]?.getD 0)) (ls, []) k) k) := Lib.hid rfl
          have H9 : Hid (k = 9 → rowC (cfun cls) (nnx a o) (ls[i]?.getD 0) ls = upto (rowStepC (cfun cls) (nnx a o) (ls[i]?.getD 0)) (ls, []) k) := Lib.hid (fun h => by rw [h]; rfl)
          have hs0 := Lib.hid (hI.fnd.rng (ls[i]?.getD 0) (by rw [List.getElem?_eq_getElem hlt]; exact List.getElem_mem hlt))
          generalize upto (rowStepC (cfun cls) (nnx a o) (ls[i]?.getD 0)) (ls, []) k = st at *
          have hrl : st.2.length = k := HPL.out.1
          have HAT : Hid (st.1[i]?.getD 0 = ls[i]?.getD 0) := Lib.hid (by obtain ⟨ex, he⟩ := HPL.out.2; rw [he, List.getElem?_append_left hlt])
          have hsl : i < st.1.length := by obtain ⟨ex, he⟩ := HPL.out.2; rw [he]; simp; omega
          have hsb : st.1.length ≤ a.n := hFd.out.len HCL.out
          have HRL := Lib.hid hrl; clear hrl
          have hii : (i : Int) < (st.1.length : Int) := by omega
          have hBx := hPB.below hM.below (by omega)
          have f0 := hBx.cell 0; have f1 := hBx.cell 1; have f2 := hBx.cell 2
          simp at f0 f1 f2
          have hci : wr.cell? ⟨g2, i, none⟩ = some (.int .i64 (ls[i]?.getD 0)) := by have := own_int_at hR.snd hsl; rwa [HAT.out] at this
          have hg2 : g2 < wr.heap.size := (hR.snd.lt g2 rfl).2
          have hKp : ∀ {A n q z}, Sl W2 (· < w.heap.size) z A n q → Sl wr (· < w.heap.size) z A n q := fun h => h.keep hM.below.size (fun b hb _ => hM.below.block b (by omega))
          by_cases hk9 : k < 9
          · have hA2w : Sls wr (· < w.heap.size) A2 a.n a.next := hA2.keep hM.below.size (fun b hb _ => hM.below.block b (by omega))
            have hLw := hKp hL2
            have hCw := hKp hC2
            clear HAT
            generalize ls[i]?.getD 0 = s0 at *
            obtain ⟨hs1, hs2, hs3⟩ := hs0.out
            obtain ⟨bN, oN, bR, oR, cR, rfl, hcN, hcR, hx1, hx2⟩ := hA2w.nx_at HF.out (s := s0.toNat) (by omega) hk9
            generalize hgx : a.nx s0.toNat k = x at hcR hx1 hx2
            go_wp2_with fail
            go_quiet (fail)
            have hR3 := hR.drewN nq
            have hM3 := hM.drewN nq
            have hbs : w.heap.size + 1 + 1 ≤ (wr.drewN nq).heap.size := Nat.le_trans hM.size hM.below.size
            have hapv : (wr.drewN nq).ownsRow (w.heap.size + 1 + 1) 3 1 (.slice (some ⟨g3, 0, none⟩) k c3') k (ints st.2) := by have := hR3.third; rwa [HRL.out] at this
            clear hR hM hBx f0 f1 f2 hci hcN hcR hA2w
            by_cases hx0 : 0 ≤ x
            · obtain ⟨bl, ol, hel, _, _, hcl⟩ := hLw.bool_at (k := x.toNat) (by omega)
              injection hel with hel; injection hel with hel1 hel2; subst hel1 hel2
              cases hov : o[x.toNat]?.getD false with
              | true =>
                rw [hov] at hcl
                obtain ⟨bl, ol, hel, _, _, hcc⟩ := hCw.int_at (k := x.toNat) (by omega)
                injection hel with hel; injection hel with hel1 hel2; subst hel1 hel2
                have hcc : wr.cell? ⟨bC, oC + x.toNat, none⟩ = some (.int .i64 (cfun cls x)) := hcc
                have HN : Hid (nnx a o s0 k = some x) := Lib.hid (by unfold nnx; rw [hgx, if_pos ⟨hx0, hov⟩])
                have HSl : Sl (wr.drewN nq) (fun _ => True) 1 (some ⟨g1, 0, none⟩) st.1.length (ints (st.1.map (cfun cls))) := Sl.of_own (by have := hR3.head; rwa [List.length_map] at this) (fun _ _ => trivial)
                have hapo : (wr.drewN nq).ownsRow (w.heap.size + 1 + 1) 3 1 (.slice (some ⟨g1, 0, none⟩) st.1.length c1') st.1.length (ints (st.1.map (cfun cls))) := by have := hR3.head; rwa [List.length_map] at this
                have hsb2 : st.1.length < 1001 := by omega
                by_cases hfi : findI (cfun cls x) (st.1.map (cfun cls)) 0 < 0
                · have HS := Lib.hid (rowStepC_new (st := st) HN.out hfi)
                  have HFd2 := Lib.hid (hFd.out.push hx0 hx2 hov hfi)
                  have hfi' : decide (findI (cfun cls x) (st.1.map (cfun cls)) 0 < 0) = true := by simpa using hfi
                  clear hfi hov hgx hs3
                  go_wp2_with (first
                    | (go_at_call 63; refine (l11Find_any _ _ c1' (st.1.map (cfun cls)) (cfun cls x) _ (wr.drewN nq) HSl).mono ?_; rintro e w4 ⟨rfl, rfl⟩)
                    | (at_builtin; refine wpList_app1 elInt rfl (.tmp 72) (.tmp 77) rfl (w.heap.size + 1 + 1) _ st.1.length (ints (st.1.map (cfun cls))) rfl hapo #[.int .i64 (cfun cls x)] _ rfl (by simp) rfl (by simp [Value.oneCell']) (by omega) (by omega) hbs ?_; intro g4 c4 w4 ho4 hg4 hb4 hlt4 _; have hM4 := hM3.farInt hapo hg4; have hR4 := hR3.appList (n := st.1.length) (List.length_map _).symm ho4 hg4 hb4; have hbs4 := Nat.le_trans hbs hg4.size; clear ho4 hg4 hb4)
                    | (at_builtin; refine wpList_app1 elInt rfl (.tmp 79) (.tmp 81) rfl (w.heap.size + 1 + 1) _ st.1.length (ints st.1) rfl hR4.snd #[.int .i64 x] _ rfl (by simp) rfl (by simp [Value.oneCell']) (by omega) (by omega) hbs4 ?_; intro g5 c5 w5 ho5 hg5 hb5 hlt5 _; have hM5 := hM4.farInt hR4.snd hg5; have hR5 := hR4.appRow rfl ho5 hg5 hb5; have hbs5 := Nat.le_trans hbs4 hg5.size; clear ho5 hg5 hb5)
                    | (at_builtin; refine wpList_app1 elInt rfl (.tmp 83) (.tmp 85) rfl (w.heap.size + 1 + 1) _ k (ints st.2) rfl (by have := hR5.third; rwa [HRL.out] at this) #[.int .i64 st.1.length] _ rfl (by simp) rfl (by simp [Value.oneCell']) (by omega) (by omega) hbs5 ?_; intro g6 c6 w6 ho6 hg6 hb6 _ _; have hM6 := hM5.farInt (by have := hR5.third; rwa [HRL.out] at this) hg6; have hR6 := hR5.app3 HRL.out.symm ho6 hg6 hb6; clear ho6 hg6 hb6))
                  go_roundw
                  case rel => exact ⟨k + 1, g4, c4, g5, c5, g6, c6, by omega, by go_num, by rw [HSU.out, HS.out]; simp, by rw [HSU.out, HS.out]; simp, rfl, by rw [HSU.out, HS.out]; simpa using hR6, hM6, by rw [HSU.out, HS.out]; exact HFd2⟩
                  case measure => simp [intOf]; omega
                · have HS := Lib.hid (rowStepC_old (st := st) HN.out hfi)
                  have hfi' : decide (findI (cfun cls x) (st.1.map (cfun cls)) 0 < 0) = false := by simpa using hfi
                  clear hfi hov hgx hs3
                  go_wp2_with (first
                    | (go_at_call 63; refine (l11Find_any _ _ c1' (st.1.map (cfun cls)) (cfun cls x) _ (wr.drewN nq) HSl).mono ?_; rintro e w4 ⟨rfl, rfl⟩)
                    | (at_builtin; refine wpList_app1 elInt rfl (.tmp 83) (.tmp 85) rfl (w.heap.size + 1 + 1) _ k (ints st.2) rfl hapv #[.int .i64 (findI (cfun cls x) (st.1.map (cfun cls)) 0)] _ rfl (by simp) rfl (by simp [Value.oneCell']) (by omega) (by omega) hbs ?_; intro g5 c5 w5 ho5 hg5 hb5 _ _; have hM5 := hM3.farInt hapv hg5; have hR5 := hR3.app3 HRL.out.symm ho5 hg5 hb5; clear ho5 hg5 hb5))
                  go_roundw
                  case rel => exact ⟨k + 1, g1, c1', g2, c2', g5, c5, by omega, by go_num, by rw [HSU.out, HS.out], by rw [HSU.out, HS.out], rfl, by rw [HSU.out, HS.out]; exact hR5, hM5, by rw [HSU.out, HS.out]; exact hFd⟩
                  case measure => simp [intOf]; omega
              | false =>
                rw [hov] at hcl
                have HS : Hid (rowStepC (cfun cls) (nnx a o) s0 st k = (st.1, st.2 ++ [-1])) := Lib.hid (rowStepC_none (by unfold nnx; rw [hgx, hov]; simp))
                clear hov hgx hs3
                go_wp2_with (at_builtin; refine wpList_app1 elInt rfl (.tmp 83) (.tmp 85) rfl (w.heap.size + 1 + 1) _ k (ints st.2) rfl hapv #[.int .i64 (-1)] _ rfl (by simp) rfl (by simp [Value.oneCell']) (by omega) (by omega) hbs ?_; intro g5 c5 w5 ho5 hg5 hb5 _ _; have hM5 := hM3.farInt hapv hg5; have hR5 := hR3.app3 HRL.out.symm ho5 hg5 hb5; clear ho5 hg5 hb5)
                go_roundw
                case rel => exact ⟨k + 1, g1, c1', g2, c2', g5, c5, by omega, by go_num, by rw [HSU.out, HS.out], by rw [HSU.out, HS.out], rfl, by rw [HSU.out, HS.out]; exact hR5, hM5, by rw [HSU.out, HS.out]; exact hFd⟩
                case measure => simp [intOf]; omega
            · have HS : Hid (rowStepC (cfun cls) (nnx a o) s0 st k = (st.1, st.2 ++ [-1])) := Lib.hid (rowStepC_none (by unfold nnx; rw [hgx, if_neg (fun h => hx0 h.1)]))
              clear hgx hs3
              go_wp2_with (at_builtin; refine wpList_app1 elInt rfl (.tmp 83) (.tmp 85) rfl (w.heap.size + 1 + 1) _ k (ints st.2) rfl hapv #[.int .i64 (-1)] _ rfl (by simp) rfl (by simp [Value.oneCell']) (by omega) (by omega) hbs ?_; intro g5 c5 w5 ho5 hg5 hb5 _ _; have hM5 := hM3.farInt hapv hg5; have hR5 := hR3.app3 HRL.out.symm ho5 hg5 hb5; clear ho5 hg5 hb5)
              go_roundw
              case rel => exact ⟨k + 1, g1, c1', g2, c2', g5, c5, by omega, by go_num, by rw [HSU.out, HS.out], by rw [HSU.out, HS.out], rfl, by rw [HSU.out, HS.out]; exact hR5, hM5, by rw [HSU.out, HS.out]; exact hFd⟩
              case measure => simp [intOf]; omega
          · obtain rfl : k = 9 := by omega
            have HRF := Lib.hid (H9.out rfl)
            clear H9
            have HN := Lib.hid (numRunC_next (cl := cfun cls) (nx := nnx a o) (ac := nac a) (acc := acc) (nxs := fin.map Prod.snd) (f := a.n + 1 - i) (by omega) hlt)
            clear HAT HSU
            generalize ls[i]?.getD 0 = s0 at *
            obtain ⟨hs1, hs2, hs3⟩ := hs0.out
            have hA1w := hKp hA1
            obtain ⟨bA, oA, rfl, hpA, hqA, hcA⟩ := hA1w.bool_at (k := s0.toNat) (by omega)
            have hcA : wr.cell? ⟨bA, oA + s0.toNat, none⟩ = some (.bool (nac a s0)) := hcA
            clear hs3
            have x1 := hM.out.cell 1
            simp at x1
            have hgo := hM.out.lt
            have halb : acc.length ≤ 1001 := by have := hI.al; omega
            have hfl : (fin.map Prod.fst).length ≤ 1001 := by have := hI.fl; simp; omega
            have hbs : w.heap.size + 1 + 1 ≤ wr.heap.size := Nat.le_trans hM.size hM.below.size
            go_upto_region 22 with fail
            go_cut [98] (fun _ wx => ∃ va', NMo W2 (w.heap.size + 1 + 1) (acc ++ [nac a s0]) (fin.map Prod.fst) va' vn (w.heap.size + 1 + 1) wx ∧ IRows wx (w.heap.size + 1 + 1) ((.slice (some ⟨g1, 0, none⟩) st.1.length c1', st.1.map (cfun cls)) :: (.slice (some ⟨g2, 0, none⟩) st.1.length c2', st.1) :: (.slice (some ⟨g3, 0, none⟩) 9 c3', st.2) :: fin))
            case first =>
              have hS0 : (fun w' : World => w'.cell? ⟨w.heap.size, 1, none⟩ = some (.slice (some ⟨bA, oA, none⟩) a.n c1) ∧ w'.cell? ⟨g2, i, none⟩ = some (.int .i64 s0) ∧ w'.cell? ⟨bA, oA + s0.toNat, none⟩ = some (.bool (nac a s0)) ∧ w'.cell? ⟨w.heap.size + 1 + 1, 1, none⟩ = some va) wr.drew := ⟨f1, hci, hcA, x1⟩
              refine wp_region_X (fun w' : World => w'.cell? ⟨w.heap.size, 1, none⟩ = some (.slice (some ⟨bA, oA, none⟩) a.n c1) ∧ w'.cell? ⟨g2, i, none⟩ = some (.int .i64 s0) ∧ w'.cell? ⟨bA, oA + s0.toNat, none⟩ = some (.bool (nac a s0)) ∧ w'.cell? ⟨w.heap.size + 1 + 1, 1, none⟩ = some va) 13 (by kernel_rfl) ?_
              (refine wpX_take (i := 0) (v := ?_) (by simp only [List.getElem?_toArray, List.getElem?_cons_succ, List.getElem?_cons_zero]; rfl) (by kernel_rfl) (by kernel_rfl) (by kernel_rfl) (by kernel_rfl) (by exact fun _ _ _ h => h) (Or.inl ⟨by rfl, ?_⟩) (by assumption) ?_; rotate_left; (intro w hSw; (try dsimp only at hSw); go_simp); (try with_reducible rfl); (try simp only [Act.put, List.setIfInBounds_toArray, List.set_cons_zero, List.set_cons_succ]))
              (refine wpX_take (i := 1) (v := ?_) (by simp only [List.getElem?_toArray, List.getElem?_cons_succ, List.getElem?_cons_zero]; rfl) (by kernel_rfl) (by kernel_rfl) (by kernel_rfl) (by kernel_rfl) (by exact fun _ _ _ h => h) (Or.inl ⟨by rfl, ?_⟩) (by assumption) ?_; rotate_left; (intro w hSw; (try dsimp only at hSw); go_simp); (try with_reducible rfl); (try simp only [Act.put, List.setIfInBounds_toArray, List.set_cons_zero, List.set_cons_succ]))
              (refine wpX_take (i := 2) (v := ?_) (by simp only [List.getElem?_toArray, List.getElem?_cons_succ, List.getElem?_cons_zero]; rfl) (by kernel_rfl) (by kernel_rfl) (by kernel_rfl) (by kernel_rfl) (by exact fun _ _ _ h => h) (Or.inl ⟨by rfl, ?_⟩) (by assumption) ?_; rotate_left; (intro w hSw; (try dsimp only at hSw); go_simp); (try with_reducible rfl); (try simp only [Act.put, List.setIfInBounds_toArray, List.set_cons_zero, List.set_cons_succ]))
              (refine wpX_take (i := 3) (v := ?_) (by simp only [List.getElem?_toArray, List.getElem?_cons_succ, List.getElem?_cons_zero]; rfl) (by kernel_rfl) (by kernel_rfl) (by kernel_rfl) (by kernel_rfl) (by exact fun _ _ _ h => h) (Or.inl ⟨by rfl, ?_⟩) (by assumption) ?_; rotate_left; (intro w hSw; (try dsimp only at hSw); go_simp); (try with_reducible rfl); (try simp only [Act.put, List.setIfInBounds_toArray, List.set_cons_zero, List.set_cons_succ]))
              (refine wpX_take (i := 4) (v := ?_) (by simp only [List.getElem?_toArray, List.getElem?_cons_succ, List.getElem?_cons_zero]; rfl) (by kernel_rfl) (by kernel_rfl) (by kernel_rfl) (by kernel_rfl) (by exact fun _ _ _ h => h) (Or.inl ⟨by rfl, ?_⟩) (by assumption) ?_; rotate_left; (intro w hSw; (try dsimp only at hSw); go_simp); (try with_reducible rfl); (try simp only [Act.put, List.setIfInBounds_toArray, List.set_cons_zero, List.set_cons_succ]))
              (refine wpX_take (i := 5) (v := ?_) (by simp only [List.getElem?_toArray, List.getElem?_cons_succ, List.getElem?_cons_zero]; rfl) (by kernel_rfl) (by kernel_rfl) (by kernel_rfl) (by kernel_rfl) (by exact fun _ _ _ h => h) (Or.inl ⟨by rfl, ?_⟩) (by assumption) ?_; rotate_left; (intro w hSw; (try dsimp only at hSw); go_simp); (try with_reducible rfl); (try simp only [Act.put, List.setIfInBounds_toArray, List.set_cons_zero, List.set_cons_succ]))
              (refine wpX_take (i := 6) (v := ?_) (by simp only [List.getElem?_toArray, List.getElem?_cons_succ, List.getElem?_cons_zero]; rfl) (by kernel_rfl) (by kernel_rfl) (by kernel_rfl) (by kernel_rfl) (by exact fun _ _ _ h => h) (Or.inl ⟨by rfl, ?_⟩) (by assumption) ?_; rotate_left; (intro w hSw; (try dsimp only at hSw); go_simp); (try with_reducible rfl); (try simp only [Act.put, List.setIfInBounds_toArray, List.set_cons_zero, List.set_cons_succ]))
              (refine wpX_take (i := 7) (v := ?_) (by simp only [List.getElem?_toArray, List.getElem?_cons_succ, List.getElem?_cons_zero]; rfl) (by kernel_rfl) (by kernel_rfl) (by kernel_rfl) (by kernel_rfl) (by exact fun _ _ _ h => h) (Or.inl ⟨by rfl, ?_⟩) (by assumption) ?_; rotate_left; (intro w hSw; (try dsimp only at hSw); go_simp); (try with_reducible rfl); (try simp only [Act.put, List.setIfInBounds_toArray, List.set_cons_zero, List.set_cons_succ]))
              (refine wpX_take (i := 8) (v := ?_) (by simp only [List.getElem?_toArray, List.getElem?_cons_succ, List.getElem?_cons_zero]; rfl) (by kernel_rfl) (by kernel_rfl) (by kernel_rfl) (by kernel_rfl) (by exact fun _ _ _ h => h) (Or.inl ⟨by rfl, ?_⟩) (by assumption) ?_; rotate_left; (intro w hSw; (try dsimp only at hSw); go_simp); (try with_reducible rfl); (try simp only [Act.put, List.setIfInBounds_toArray, List.set_cons_zero, List.set_cons_succ]))
              (refine wpX_take (i := 9) (v := ?_) (by simp only [List.getElem?_toArray, List.getElem?_cons_succ, List.getElem?_cons_zero]; rfl) (by kernel_rfl) (by kernel_rfl) (by kernel_rfl) (by kernel_rfl) (by exact fun _ _ _ h => h) (Or.inl ⟨by rfl, ?_⟩) (by assumption) ?_; rotate_left; (intro w hSw; (try dsimp only at hSw); go_simp); (try with_reducible rfl); (try simp only [Act.put, List.setIfInBounds_toArray, List.set_cons_zero, List.set_cons_succ]))
              have hR3 := hR.drew
              have hM3 := hM.drew
              have hbs3 : w.heap.size + 1 + 1 ≤ wr.drew.heap.size := hbs
              have hB3 := (Blk.below (w := wr) hBx (by exact (Below.refl _ _).drew) hBx.lt)
              have hB4 := hB3.alloc (.cells #[.bool (nac a s0)] 4)
              have s2 : (fun w' : World => w'.cell? ⟨w.heap.size, 1, none⟩ = some (.slice (some ⟨bA, oA, none⟩) a.n c1) ∧ w'.cell? ⟨g2, i, none⟩ = some (.int .i64 s0) ∧ w'.cell? ⟨bA, oA + s0.toNat, none⟩ = some (.bool (nac a s0)) ∧ w'.cell? ⟨w.heap.size + 1 + 1, 1, none⟩ = some va) (wr.drew.alloc (.cells #[.bool (nac a s0)] 4)) := ⟨hB4.cell 1, (Below.cell (below_alloc wr.drew _) (p := ⟨g2, i, none⟩) hg2).trans hci, (Below.cell (below_alloc wr.drew _) (p := ⟨bA, oA + s0.toNat, none⟩) hqA).trans hcA, (hM3.alloc _).out.cell 1⟩
              refine wpX_one (i := 10) (by kernel_rfl) (by simp only [List.getElem?_toArray, List.getElem?_cons_succ, List.getElem?_cons_zero]; rfl) (fun K hK => ?_)
              go_simp
              (refine hK.out _ _ (Or.inr s2) ?_; clear hK; (try simp only [Act.put, List.setIfInBounds_toArray, List.set_cons_zero, List.set_cons_succ]))
              refine wpX_one (i := 11) (by kernel_rfl) (by simp only [List.getElem?_toArray, List.getElem?_cons_succ, List.getElem?_cons_zero]; rfl) (fun K hK => ?_)
              refine step_app1 elBool (by rfl) (.tmp 88) (.tmp 97) (by rfl) (w.heap.size + 1 + 1) va acc.length (bools acc) (by rfl) hM3.acc #[.bool (nac a s0)] _ (by rfl) (by simp) rfl (by simp [Value.oneCell']) (by omega) (by omega) hbs3 ?_
              intro g6 c6 w6 ho6 hg6 hb6 _ _
              have hnp := own_blk_ne hM3.acc hB3 (by decide)
              have hM6 := hM3.putAcc (b := nac a s0) (by rw [← bools_snoc]; simpa using ho6) hg6
              have hR6 := hR3.far hM3.acc hg6 (by decide)
              have ho1 := hM3.out.grown hg6 (own_blk_ne hM3.acc hM3.out (by decide))
              have y1 := ho1.cell 1
              have z1 := ho1.frozen 1
              have s3 : (fun w' : World => w'.cell? ⟨w.heap.size, 1, none⟩ = some (.slice (some ⟨bA, oA, none⟩) a.n c1) ∧ w'.cell? ⟨g2, i, none⟩ = some (.int .i64 s0) ∧ w'.cell? ⟨bA, oA + s0.toNat, none⟩ = some (.bool (nac a s0)) ∧ w'.cell? ⟨w.heap.size + 1 + 1, 1, none⟩ = some va) w6 := ⟨hg6.cell f1 hnp, hg6.cell hci (by have := own_ne hR3.snd hM3.acc (by decide); simpa [Value.ownBlock] using this), hg6.cell hcA (fun he => by have := own_ge hM3.acc bA he.symm; omega), y1⟩
              have hbk := hR6.farBlk (w' := w6.setCell ⟨w.heap.size + 1 + 1, 1, none⟩ (.slice (some ⟨g6, 0, none⟩) (acc.length + 1) c6)) ho1 ⟨rfl, rfl, rfl, by simp, fun k hk hne => Below.heap_setCell w6 _ _ k (fun e => hne (by rw [e]))⟩ (by decide)
              (refine hK.out _ _ (Or.inr s3) ?_; clear hK; (try simp only [Act.put, List.setIfInBounds_toArray, List.set_cons_zero, List.set_cons_succ]))
              simp at y1
              (refine wpX_take (i := 12) (v := ?_) (by simp only [List.getElem?_toArray, List.getElem?_cons_succ, List.getElem?_cons_zero]; rfl) (by kernel_rfl) (by kernel_rfl) (by kernel_rfl) (by kernel_rfl) (by exact fun _ _ _ h => h) (Or.inl ⟨by rfl, ?_⟩) (by assumption) ?_; rotate_left; (intro w hSw; (try dsimp only at hSw); go_simp); (try with_reducible rfl); (try simp only [Act.put, List.setIfInBounds_toArray, List.set_cons_zero, List.set_cons_succ]))
              refine wpX_one (i := 13) (by kernel_rfl) (by simp only [List.getElem?_toArray, List.getElem?_cons_succ, List.getElem?_cons_zero]; rfl) (fun K hK => ?_)
              go_simp
              (refine hK.out _ _ (Or.inl rfl) ?_; clear hK; (try simp only [Act.put, List.setIfInBounds_toArray, List.set_cons_zero, List.set_cons_succ]))
              refine wpX_done (by kernel_rfl) ?_ _
              go_wp2_with fail
              go_meet
              exact ⟨_, hM6, hbk⟩
            case rest =>
              obtain ⟨va', hM7, hR7⟩ := hcut
              have hbs7 : w.heap.size + 1 + 1 ≤ wc.heap.size := Nat.le_trans hM7.size hM7.below.size
              have x4 := hM7.out.cell 2
              simp at x4
              go_wp2_with (at_builtin; refine wpList_app1 elRow rfl (.tmp 101) (.tmp 103) rfl (w.heap.size + 1 + 1) vn (fin.map Prod.fst).length (fin.map Prod.fst) rfl hM7.next #[.slice (some ⟨g3, 0, none⟩) 9 c3'] _ rfl (by simp) rfl (by simp [Value.oneCell']) (by omega) (by omega) hbs7 ?_; intro g8 c8 w8 ho8 hg8 hb8 _ _; have ho9 := hM7.out.grown hg8 (own_blk_ne hM7.next hM7.out (by decide)); have y2 := ho9.cell 2; have z2 := ho9.frozen 2; simp at y2)
              have hM8 := hM7.putNext (u := .slice (some ⟨g3, 0, none⟩) 9 c3') (by simpa using ho8) hg8
              have hR8 := (hR7.far hM7.next hg8 (by decide)).farBlk (w' := w8.setCell ⟨w.heap.size + 1 + 1, 2, none⟩ (.slice (some ⟨g8, 0, none⟩) ((fin.map Prod.fst).length + 1) c8)) ho9 ⟨rfl, rfl, rfl, by simp, fun k hk hne => Below.heap_setCell w8 _ _ k (fun e => hne (by rw [e]))⟩ (by decide)
              have hR9 := hR8.perm (List.Perm.cons _ (List.Perm.cons _ (List.perm_append_singleton _ _).symm))
              have HRun : Hid (numC a cls o = numRunC (cfun cls) (nnx a o) (nac a) (a.n + 1 - (i + 1)) (i + 1) st.1 (acc ++ [nac a s0]) ((fin ++ [((Value.slice (some ⟨g3, 0, none⟩) 9 c3' : Value), st.2)]).map Prod.snd)) := Lib.hid (by
                rw [hI.run, HN.out, HRF.out, List.map_append, show a.n + 1 - i - 1 = a.n + 1 - (i + 1) from by omega]; rfl)
              go_roundw
              case rel => exact ⟨i + 1, st.1, acc ++ [nac a s0], fin ++ [(.slice (some ⟨g3, 0, none⟩) 9 c3', st.2)], va', _, g1, c1', g2, c2', by go_num, rfl, rfl, HRun.out, by omega, hFd.out, by rw [List.map_append]; simpa using hM8, by simpa using hR9, by simp [hI.al], by simp [hI.fl]⟩
              case measure => simp [intOf]; omega
      · have hRBx := hRB.below hI.mo.below (by omega)
        have q0 := hRBx.cell 0; have q1 := hRBx.cell 1; have q2 := hRBx.cell 2
        have o0 := hI.mo.out.cell 0; have o1 := hI.mo.out.cell 1; have o2 := hI.mo.out.cell 2
        simp at q0 q1 q2 o0 o1 o2
        have z0 := hRBx.frozen 0; have z1 := hRBx.frozen 1; have z2 := hRBx.frozen 2
        have HE : Hid (numC a cls o = (acc, fin.map Prod.snd)) := Lib.hid (by rw [hI.run]; exact numRunC_done hlt)
        have hbz : Below w.heap.size w wo := hW.trans (hI.mo.below.mono (by omega))
        have hA := (hI.mo.aut (fin := fin) rfl hI.rows.tail.tail)
        obtain ⟨A3, c3, rfl⟩ := own_form hI.mo.acc
        obtain ⟨A4, c4, rfl⟩ := own_form hI.mo.next
        go_wp2
        refine bodyPost_ret (v := .agg #[.int .i64 0, .slice A3 acc.length c3, .slice A4 (fin.map Prod.fst).length c4]) (by simp [results, Tryz.results41, go_sem, q0, q1, q2]) rfl ?_
        refine ⟨_, rfl, ?_, ((hbz.setCell (by simp) _).setCell (by simp) _).setCell (by simp) _⟩
        rw [hNA.out, HE.out]
        refine (hA.keep (w' := _) (by simp) (fun b hb _ => ?_)).weak (fun b hb _ => by have hb : w.heap.size + 1 + 1 ≤ b := hb; show w.heap.size ≤ b; omega)
        have hb : w.heap.size + 1 + 1 ≤ b := hb
        rw [Below.heap_setCell _ _ _ _ (by simp; omega), Below.heap_setCell _ _ _ _ (by simp; omega), Below.heap_setCell _ _ _ _ (by simp; omega)]
end Go.Proofs.YtmnhpbbapkcdjaaGreat
