/- Walks: a word is run and accepted; Walks: trimming, on both sides; Walks: trimming, the two functions of the statement; Walks: drawing an automaton at random. No condition. -/
import Derived.Test.YtmnhpbbapkcdjaaGreatA19

/- Walks: a word is run and accepted. -/
namespace Go.Proofs.YtmnhpbbapkcdjaaGreat
open Go.RowKit

theorem specAccepts_any (a : Aut) (v : Value) (B : Option Addr) (n c : Nat) (ws : List Int) (w : World) (p q : Nat → Prop) (h : AutV w p v a) (hw : Sl w q 1 B n (ints ws)) :
    Calls Tryz.prog 21 #[v, .slice B n c] w fun e w' => e = .returned (.bool (accWB a ws)) ∧ Below w.heap.size w w' := by
  obtain ⟨A1, n1, c1, A2, n2, c2, hv, h1, _⟩ := id h
  obtain rfl : a.n = n1 := h1.lenb
  have ha := h.alloc (.cells #[.int .i64 a.start, .slice A1 a.n c1, .slice A2 n2 c2] 31)
  have hb := below_alloc w (.cells #[.int .i64 a.start, .slice A1 a.n c1, .slice A2 n2 c2] 31)
  have hw := hw.alloc (.cells #[.int .i64 a.start, .slice A1 a.n c1, .slice A2 n2 c2] 31)
  have h1 := h1.alloc (.cells #[.int .i64 a.start, .slice A1 a.n c1, .slice A2 n2 c2] 31)
  subst hv
  have hlt0 := (runWB_lt (a := a) ws).2
  go_enter Tryz.func21, Tryz.ntmps21
  go_wp2_with fail
  refine (specRun_any a _ B n c ws _ p q ha hw).mono ?_; rintro e w1 ⟨rfl, hb1⟩
  obtain ⟨e0, e1, e2, hlt, _⟩ := box3 (Blk.new w _ _) hb1
  have hb2 := hb.trans (hb1.mono (by simp))
  by_cases h0 : 0 ≤ runWB a ws
  · obtain ⟨b, off, rfl, hc⟩ := (h1.keep hb1.size (fun b _ hb => hb1.block b hb)).bool_atI h0 hlt0
    go_wp2
    go_ret; exact ⟨by simp [accWB, acB, h0], hb2⟩
  · have hd : decide (0 ≤ runWB a ws) = false := by simpa using h0
    go_wp2
    go_ret; exact ⟨by simp [accWB, acB, hd], hb2⟩

set_option maxRecDepth 100000 in
theorem implRun_any (a : Aut) (v : Value) (B : Option Addr) (n c : Nat) (ws : List Int) (w : World) (p q : Nat → Prop) (h : AutV w p v a) (hw : Sl w q 1 B n (ints ws)) :
    Calls Tryz.prog 18 #[v, .slice B n c] w fun e w' => e = .returned (.int .i64 (runWB a ws)) ∧ Below w.heap.size w w' := by
  obtain ⟨A1, n1, c1, A2, n2, c2, hv, _, _⟩ := id h
  have ha := h.alloc (.cells #[.int .i64 a.start, .slice A1 n1 c1, .slice A2 n2 c2] 31)
  have hb := below_alloc w (.cells #[.int .i64 a.start, .slice A1 n1 c1, .slice A2 n2 c2] 31)
  have hw := hw.alloc (.cells #[.int .i64 a.start, .slice A1 n1 c1, .slice A2 n2 c2] 31)
  have hm2 : n ≤ 9223372036854775807 := by have := hw.2.1; unfold maxLen at this; omega
  have Hl := Lib.hid hw.len1
  subst hv
  cases hV : validB a with
  | false =>
    have He := Lib.hid (show runWB a ws = -1 by unfold runWB; rw [if_neg (by simp [hV])])
    go_enter Tryz.func18, Tryz.ntmps18
    go_wp2_with (go_at_call 38; refine (implValid_any a _ _ p ha).mono ?_; rintro e w1 ⟨rfl, hb1⟩)
    go_ret
    exact ⟨by rw [He.out]; rfl, hb.trans (hb1.mono (by simp))⟩
  | true =>
    have hf := (validB_iff.1 hV).2
    have He := Lib.hid (show runWB a ws = runI a a.start ws by unfold runWB; rw [if_pos hV])
    have hs0 : -1 ≤ a.start := by have := hf.1; omega
    have hs1 := hf.2.1
    have HF := Lib.hid hf; clear hf
    go_enter Tryz.func18, Tryz.ntmps18
    go_wp2_with fail
    refine (implValid_any a _ _ p ha).mono ?_; rintro e w1 ⟨rfl, hb1⟩
    obtain ⟨e0, e1, e2, hlt, hB⟩ := box3 (Blk.new w _ _) hb1
    have ha1 := ha.below hb1
    have hw1 := hw.keep hb1.size (fun b _ hb => hb1.block b hb)
    have hb2 := hb.trans (hb1.mono (by simp))
    clear ha hw hb hb1
    go_wp2_with fail
    go_loopw [5, 15] (fun t i wr => ∃ (x : Int) (k : Nat), k ≤ n ∧ i = .int .i64 k ∧ t = .int .i64 x ∧ -1 ≤ x ∧ x < a.n ∧ runI a a.start ws = runI a x (ws.drop k) ∧ Below w1.heap.size w1 wr) (fun _ i _ => n - (intOf i).toNat)
    case atStart => exact ⟨a.start, 0, Nat.zero_le _, rfl, rfl, hs0, hs1, rfl, Below.refl _ _⟩
    case round =>
      obtain ⟨x, k, hk, rfl, rfl, hx0, hx1, hr, hbr⟩ := hrel
      have Hr := Lib.hid hr; clear hr
      by_cases hlk : k < n
      · obtain ⟨bw, ow, rfl, _, _, hcw⟩ := (hw1.keep hbr.size (fun b _ hb => hbr.block b hb)).int_at hlk
        have hBr := hB.below hbr hlt
        have f0 := hBr.cell 0; have f1 := hBr.cell 1; have f2 := hBr.cell 2
        simp at f0 f1 f2
        have Hs := Lib.hid (runI_step (a := a) (s := x) (by rw [Hl.out]; exact hlk))
        generalize ws[k]?.getD 0 = l at *
        have hmv := mvI_lt HF.out hx1 l
        clear e0 e1 e2
        go_wp2_with (go_at_call 44; refine (move_any a _ x l wr p (ha1.below hbr) HF.out hx1).mono ?_; rintro e w3 ⟨rfl, hb3⟩)
        go_roundw
        case rel => exact ⟨_, k + 1, by omega, by go_num, rfl, hmv.1, hmv.2, by rw [Hr.out, Hs.out], hbr.trans (hb3.mono hbr.size)⟩
        case measure => simp [intOf]; omega
      · have He2 := Lib.hid (show runWB a ws = x by rw [He.out, Hr.out]; exact runI_end (by rw [Hl.out]; omega))
        clear e0 e1 e2
        go_wp2
        go_ret
        exact ⟨by rw [He2.out]; rfl, hb2.trans (hbr.mono (by omega))⟩

theorem implAccepts_any (a : Aut) (v : Value) (B : Option Addr) (n c : Nat) (ws : List Int) (w : World) (p q : Nat → Prop) (h : AutV w p v a) (hw : Sl w q 1 B n (ints ws)) :
    Calls Tryz.prog 11 #[v, .slice B n c] w fun e w' => e = .returned (.bool (accWB a ws)) ∧ Below w.heap.size w w' := by
  obtain ⟨A1, n1, c1, A2, n2, c2, hv, h1, _⟩ := id h
  have ha := h.alloc (.cells #[.int .i64 a.start, .slice A1 n1 c1, .slice A2 n2 c2] 31)
  have hb := below_alloc w (.cells #[.int .i64 a.start, .slice A1 n1 c1, .slice A2 n2 c2] 31)
  have hw := hw.alloc (.cells #[.int .i64 a.start, .slice A1 n1 c1, .slice A2 n2 c2] 31)
  subst hv
  have hlt0 := (runWB_lt (a := a) ws).2
  go_enter Tryz.func11, Tryz.ntmps11
  go_wp2_with fail
  go_region_held3 (fun w' => w'.cell? ⟨w.heap.size, 0, none⟩ = some (.int .i64 a.start) ∧ w'.cell? ⟨w.heap.size, 1, none⟩ = some (.slice A1 n1 c1) ∧ w'.cell? ⟨w.heap.size, 2, none⟩ = some (.slice A2 n2 c2))
    (first | go_keep | exact ⟨d0, d1, d2⟩ | exact ⟨e0, e1, e2⟩)
    (first | (go_at_call 18; refine (implRun_any a _ B n c ws _ p q (by exact ha) (by exact hw)).mono ?_; rintro e w1 ⟨rfl, hb1⟩; obtain ⟨e0, e1, e2, hlt, hB⟩ := box3 (by exact Blk.new w _ _) hb1) | (go_at_call 35; refine (accepts_any a _ _ _ p (ha.drew.below hb1) hlt0).mono ?_; rintro e w2 ⟨rfl, hb2⟩; have d0 := (hb2.cell (p := ⟨w.heap.size, 0, none⟩) hlt).trans e0; have d1 := (hb2.cell (p := ⟨w.heap.size, 1, none⟩) hlt).trans e1; have d2 := (hb2.cell (p := ⟨w.heap.size, 2, none⟩) hlt).trans e2))
  go_wp2
  go_ret
  exact ⟨rfl, (hb.drew.trans (hb1.mono (by simp))).trans (hb2.mono (by omega))⟩
end Go.Proofs.YtmnhpbbapkcdjaaGreat

/- Walks: trimming, on both sides. -/
namespace Go.Proofs.YtmnhpbbapkcdjaaGreat
open Go.RowKit

theorem trim1_any (a : Aut) (g g3 : Nat) (v0 v1 v2 : Value) (o : List Bool) (L : Option Addr) (cL : Nat) (s : Int) (k : Nat) (w : World) (p q : Nat → Prop) (hB : Blk w g 31 #[v0, v1, v2]) (hB3 : Blk w g3 28 #[.slice L a.n cL]) (h : AutV w p (.agg #[v0, v1, v2]) a) (hL : Sl w q 1 L a.n (bools o)) (hf : a.Fits) (h0 : 0 ≤ s) (h1 : s < a.n) (hk : k < 9) :
    Calls Tryz.prog 67 #[.int .i64 s, .int .i64 k, .pointer (some ⟨g, 0, none⟩), .pointer (some ⟨g3, 0, none⟩)] w fun e w' => NextPost (nnx a o) s k w e w' := by
  have f0 := hB.cell 0; have f1 := hB.cell 1; have f2 := hB.cell 2
  simp at f0 f1 f2
  have hmv : mvI a s k = a.nx s.toNat k := by unfold mvI; rw [if_pos ⟨h0, isL_iff.2 ⟨by omega, by omega⟩⟩]; simp
  have hr := mvI_lt hf h1 (k : Int)
  have HV := Lib.hid hmv
  clear hmv
  generalize hx : mvI a s k = x at *
  have HX := Lib.hid hx
  clear hx
  go_enter Tryz.func67, Tryz.ntmps67
  go_wp2_with fail
  refine (move_any a _ s k w p h hf h1).mono ?_; rintro e w1 ⟨rfl, hb1⟩
  rw [HX.out]
  have hB31 := hB3.below hb1 hB3.lt
  have t0 := hB31.cell 0
  simp at t0
  have hL1 := hL.below hb1 (fun b _ h => h)
  by_cases hx0 : 0 ≤ x
  · obtain ⟨bL, oL, rfl, _, _, hcl⟩ := hL1.bool_at (k := x.toNat) (by omega)
    cases hov : o[x.toNat]?.getD false with
    | true =>
      rw [hov] at hcl
      have HN : Hid (nnx a o s k = some x) := Lib.hid (by unfold nnx; rw [← HV.out, if_pos ⟨hx0, hov⟩])
      clear hov
      go_wp2_with fail
      go_quiet (fail)
      go_wp2
      go_ret2
      exact ⟨x, true, rfl, HN.out, below_drewN hb1 _⟩
    | false =>
      rw [hov] at hcl
      have HN : Hid (nnx a o s k = none) := Lib.hid (by unfold nnx; rw [← HV.out, if_neg (by rw [hov]; simp)])
      clear hov
      go_wp2_with fail
      go_quiet (fail)
      go_wp2
      go_ret2
      exact ⟨x, false, rfl, HN.out, below_drewN hb1 _⟩
  · have HN : Hid (nnx a o s k = none) := Lib.hid (by unfold nnx; rw [← HV.out, if_neg (fun h => hx0 h.1)])
    have hx0' : decide (0 ≤ x) = false := by simpa using hx0
    go_wp2_with fail
    go_quiet (fail)
    go_wp2
    go_ret2
    exact ⟨x, false, rfl, HN.out, below_drewN hb1 _⟩

noncomputable def trimI (a : Aut) : Aut := if (liveF a)[a.start.toNat]?.getD false = true then resAut (numbR (nnx a (liveF a)) (acB a) a.n a.start) else nothingAut
def iota (n : Nat) : List Int := (List.range n).map Int.ofNat
noncomputable def trimS (a : Aut) : Aut := numAut a (iota a.n) (liveF a)

set_option maxHeartbeats 1000000 in
set_option maxRecDepth 100000 in
theorem trim_any (a : Aut) (v : Value) (w : World) (p : Nat → Prop) (h : AutV w p v a) (hf : a.Fits) (hn : a.n ≤ 1000) :
    Calls Tryz.prog 39 #[v] w fun e w' => AutRes w w' (trimI a) e := by
  obtain ⟨A1, c1, A2, c2, rfl, h1, h2⟩ := h.fit hf
  have hst0 := hf.1
  have hst1 := hf.2.1
  have hP := (h.alloc (.cells #[.int .i64 a.start, .slice A1 a.n c1, .slice A2 a.n c2] 31)).alloc (.cells #[.int .i64 0, .slice none 0 0, .slice none 0 0] 31)
  have hB := (Blk.new w 31 #[.int .i64 a.start, .slice A1 a.n c1, .slice A2 a.n c2]).alloc (.cells #[.int .i64 0, .slice none 0 0, .slice none 0 0] 31)
  have hR : Blk ((w.alloc (.cells #[.int .i64 a.start, .slice A1 a.n c1, .slice A2 a.n c2] 31)).alloc (.cells #[.int .i64 0, .slice none 0 0, .slice none 0 0] 31)) (w.heap.size + 1) 31 #[.int .i64 0, .slice none 0 0, .slice none 0 0] := by
    have := Blk.new (w.alloc (.cells #[.int .i64 a.start, .slice A1 a.n c1, .slice A2 a.n c2] 31)) 31 #[.int .i64 0, .slice none 0 0, .slice none 0 0]
    rwa [size_alloc] at this
  have hW := below_alloc2 w (.cells #[.int .i64 a.start, .slice A1 a.n c1, .slice A2 a.n c2] 31) (.cells #[.int .i64 0, .slice none 0 0, .slice none 0 0] 31)
  go_enter Tryz.func39, Tryz.ntmps39
  go_wp2_with fail
  refine (live_any a _ _ p hP hf hn).mono ?_; rintro e w1 ⟨g, cap, rfl, hown, hb1⟩
  have hB1 := (hB.below hb1 hB.lt).alloc (.cells #[.slice (some ⟨g, 0, none⟩) a.n cap] 28)
  have f0 := hB1.cell 0; have f1 := hB1.cell 1; have f2 := hB1.cell 2
  simp at f0 f1 f2
  have hR1 := (hR.below hb1 hR.lt).alloc (.cells #[.slice (some ⟨g, 0, none⟩) a.n cap] 28)
  have hP1 := (hP.below hb1).alloc (.cells #[.slice (some ⟨g, 0, none⟩) a.n cap] 28)
  have hB3 := Blk.new w1 28 #[.slice (some ⟨g, 0, none⟩) a.n cap]
  have hL1 : Sl (w1.alloc (.cells #[.slice (some ⟨g, 0, none⟩) a.n cap] 28)) (fun _ => True) 1 (some ⟨g, 0, none⟩) a.n (bools (liveF a)) := (Sl.of_own hown (fun _ _ => trivial)).alloc _
  obtain ⟨bl, ol, hel, _, _, hcl⟩ := hL1.bool_at (k := a.start.toNat) (by omega)
  injection hel with hel; injection hel with hel1 hel2; subst hel1 hel2
  simp only [Nat.zero_add] at hcl
  have hbz : Below w.heap.size w (w1.alloc (.cells #[.slice (some ⟨g, 0, none⟩) a.n cap] 28)) := (hW.trans (hb1.mono (by simp; omega))).trans ((below_alloc w1 _).mono (by have := hb1.size; simp at this; omega))
  have hsz : w.heap.size + 1 + 1 ≤ w1.heap.size := by have := hb1.size; simp at this; omega
  clear hown hP hB hR hb1 hW
  cases hlv : (liveF a)[a.start.toNat]?.getD false with
  | false =>
    have HT : Hid (trimI a = nothingAut) := Lib.hid (by unfold trimI; rw [if_neg (by rw [hlv]; simp)])
    rw [hlv] at hcl
    clear hlv
    go_wp2_with fail
    refine (nothing_any _).mono ?_; rintro e w2 ⟨v1, rfl, hA, hb2⟩
    obtain ⟨A3, n3, c3, A4, n4, c4, hv1, _, _⟩ := id hA
    have hR2 := hR1.below hb2 hR1.lt
    have q0 := hR2.cell 0; have q1 := hR2.cell 1; have q2 := hR2.cell 2
    simp at q0 q1 q2
    have z0 := hR2.frozen 0; have z1 := hR2.frozen 1; have z2 := hR2.frozen 2
    have hbz2 := hbz.trans (hb2.mono (by simp; omega))
    have hsz2 : w.heap.size + 1 + 1 ≤ w2.heap.size := by have := hb2.size; simp at this; omega
    subst hv1
    go_wp2
    refine bodyPost_ret (v := .agg #[.int .i64 nothingAut.start, .slice A3 n3 c3, .slice A4 n4 c4]) (by simp [results, Tryz.results39, go_sem, q0, q1, q2]) rfl ?_
    refine ⟨_, rfl, ?_, ((hbz2.setCell (by simp) _).setCell (by simp) _).setCell (by simp) _⟩
    rw [HT.out]
    refine (hA.keep (w' := _) (by simp) (fun b hb _ => ?_)).weak (fun b hb _ => by have hb := hb; simp at hb; omega)
    have hb := hb; simp at hb
    rw [Below.heap_setCell _ _ _ _ (by simp; omega), Below.heap_setCell _ _ _ _ (by simp; omega), Below.heap_setCell _ _ _ _ (by simp; omega)]
  | true =>
    have HT : Hid (trimI a = resAut (numbR (nnx a (liveF a)) (acB a) a.n a.start)) := Lib.hid (by unfold trimI; rw [if_pos hlv])
    rw [hlv] at hcl
    clear hlv
    go_wp2_with fail
    refine (numbered_any a.start a.n 35 67 #[.agg #[.int .i64 a.start, .slice A1 a.n c1, .slice A2 a.n c2]] #[] #[] #[.pointer (some ⟨w.heap.size, 0, none⟩), .pointer (some ⟨w1.heap.size, 0, none⟩)] (acB a) (nnx a (liveF a)) (fun x => 0 ≤ x ∧ x < a.n) _ hn (fun args w => by kernel_rfl) (fun args w => by kernel_rfl) ⟨hst0, hst1⟩ (fun x h => wfI64 (by omega))
      (fun x k t hx hk h => by unfold nnx at h; by_cases hh : 0 ≤ a.nx x.toNat k ∧ (liveF a)[(a.nx x.toNat k).toNat]?.getD false = true
                               · rw [if_pos hh] at h; injection h with h; subst h; exact ⟨hh.1, ((hf.2.2.2 x.toNat (by omega)).2 k hk).2⟩
                               · rw [if_neg hh] at h; cases h)
      (fun x w' hx hb => accepts_any a _ x w' p (hP1.below hb) hx.2)
      (fun x k w' hx hk hb => trim1_any a _ _ _ _ _ _ _ _ x k w' p _ (hB1.below hb hB1.lt) (hB3.below hb hB3.lt) (hP1.below hb) (hL1.below hb (fun b _ h => h)) hf hx.1 hx.2 hk)).mono ?_
    rintro e w2 ⟨v1, rfl, hA, hb2⟩
    obtain ⟨A3, n3, c3, A4, n4, c4, hv1, _, _⟩ := id hA
    have hR2 := hR1.below hb2 hR1.lt
    generalize numbR (nnx a (liveF a)) (acB a) a.n a.start = r at *
    subst hv1
    have hR3 := hR2.alloc (.cells #[.int .i64 (resAut r).start, .slice A3 n3 c3, .slice A4 n4 c4] 31)
    have q0 := hR3.cell 0; have q1 := hR3.cell 1; have q2 := hR3.cell 2
    simp at q0 q1 q2
    have z0 := hR3.frozen 0; have z1 := hR3.frozen 1; have z2 := hR3.frozen 2
    have hbz2 := hbz.trans (hb2.mono (by simp; omega))
    have hsz2 : w.heap.size + 1 + 1 ≤ w2.heap.size := by have := hb2.size; simp at this; omega
    have hA := hA.alloc (.cells #[.int .i64 (resAut r).start, .slice A3 n3 c3, .slice A4 n4 c4] 31)
    have hbz3 := hbz2.trans ((below_alloc w2 (.cells #[.int .i64 (resAut r).start, .slice A3 n3 c3, .slice A4 n4 c4] 31)).mono (by omega))
    go_wp2
    refine bodyPost_ret (v := .agg #[.int .i64 (resAut r).start, .slice A3 n3 c3, .slice A4 n4 c4]) (by simp [results, Tryz.results39, go_sem, q0, q1, q2]) rfl ?_
    refine ⟨_, rfl, ?_, ((hbz3.setCell (by simp) _).setCell (by simp) _).setCell (by simp) _⟩
    rw [HT.out]
    refine (hA.keep (w' := _) (by simp) (fun b hb _ => ?_)).weak (fun b hb _ => by have hb := hb; simp at hb; omega)
    have hb := hb; simp at hb
    rw [Below.heap_setCell _ _ _ _ (by simp; omega), Below.heap_setCell _ _ _ _ (by simp; omega), Below.heap_setCell _ _ _ _ (by simp; omega)]
end Go.Proofs.YtmnhpbbapkcdjaaGreat

/- Walks: trimming, the two functions of the statement. -/
namespace Go.Proofs.YtmnhpbbapkcdjaaGreat
open Go.RowKit

def zeroAut : Aut := ⟨0, [], []⟩
theorem AutRes.set3 {w w1 : World} {g B : Nat} {x y z v : Value} {a : Aut} (hA : AutV w1 (B ≤ ·) v a) (hB : g < B) (hb : Below w.heap.size w w1) (hg : w.heap.size ≤ g) :
    AutRes w (((w1.setCell ⟨g, 0, none⟩ x).setCell ⟨g, 1, none⟩ y).setCell ⟨g, 2, none⟩ z) a (.returned v) := by
  refine ⟨_, rfl, ?_, ((hb.setCell (by simpa using hg) _).setCell (by simpa using hg) _).setCell (by simpa using hg) _⟩
  refine (hA.keep (w' := _) (by simp) (fun b hb _ => ?_)).weak (fun b hb _ => by have hb : B ≤ b := hb; show w.heap.size ≤ b; omega)
  have hb : B ≤ b := hb
  rw [Below.heap_setCell _ _ _ _ (by simp; omega), Below.heap_setCell _ _ _ _ (by simp; omega), Below.heap_setCell _ _ _ _ (by simp; omega)]
theorem AutRes.zero {w w1 : World} {g : Nat} {x y z : Value} (hb : Below w.heap.size w w1) (hg : w.heap.size ≤ g) :
    AutRes w (((w1.setCell ⟨g, 0, none⟩ x).setCell ⟨g, 1, none⟩ y).setCell ⟨g, 2, none⟩ z) zeroAut (.returned (.agg #[.int .i64 0, .slice none 0 0, .slice none 0 0])) :=
  AutRes.set3 (B := g + 1) (AutV.none_ _ _) (by omega) hb hg

noncomputable def trimIT (a : Aut) : Aut := if validB a = true then trimI a else zeroAut
noncomputable def trimST (a : Aut) : Aut := if validB a = true then trimS a else zeroAut

theorem implTrim_any (a : Aut) (v : Value) (w : World) (p : Nat → Prop) (h : AutV w p v a) :
    Calls Tryz.prog 14 #[v] w fun e w' => AutRes w w' (trimIT a) e := by
  obtain ⟨A1, n1, c1, A2, n2, c2, rfl, _, _⟩ := id h
  have hP := (h.alloc (.cells #[.int .i64 a.start, .slice A1 n1 c1, .slice A2 n2 c2] 31)).alloc (.cells #[.int .i64 0, .slice none 0 0, .slice none 0 0] 31)
  have hB := (Blk.new w 31 #[.int .i64 a.start, .slice A1 n1 c1, .slice A2 n2 c2]).alloc (.cells #[.int .i64 0, .slice none 0 0, .slice none 0 0] 31)
  have hR : Blk ((w.alloc (.cells #[.int .i64 a.start, .slice A1 n1 c1, .slice A2 n2 c2] 31)).alloc (.cells #[.int .i64 0, .slice none 0 0, .slice none 0 0] 31)) (w.heap.size + 1) 31 #[.int .i64 0, .slice none 0 0, .slice none 0 0] := by
    have := Blk.new (w.alloc (.cells #[.int .i64 a.start, .slice A1 n1 c1, .slice A2 n2 c2] 31)) 31 #[.int .i64 0, .slice none 0 0, .slice none 0 0]
    rwa [size_alloc] at this
  have hW := below_alloc2 w (.cells #[.int .i64 a.start, .slice A1 n1 c1, .slice A2 n2 c2] 31) (.cells #[.int .i64 0, .slice none 0 0, .slice none 0 0] 31)
  go_enter Tryz.func14, Tryz.ntmps14
  go_wp2_with fail
  refine (implValid_any a _ _ p hP).mono ?_; rintro e w1 ⟨rfl, hb1⟩
  have hR1 := hR.below hb1 hR.lt
  have q0 := hR1.cell 0; have q1 := hR1.cell 1; have q2 := hR1.cell 2
  have hB1 := hB.below hb1 hB.lt
  have f0 := hB1.cell 0; have f1 := hB1.cell 1; have f2 := hB1.cell 2
  simp at q0 q1 q2 f0 f1 f2
  have z0 := hR1.frozen 0; have z1 := hR1.frozen 1; have z2 := hR1.frozen 2
  have hbz : Below w.heap.size w w1 := hW.trans (hb1.mono (by simp; omega))
  have hsz : w.heap.size + 1 + 1 ≤ w1.heap.size := by have := hb1.size; simp at this; omega
  have hP1 := hP.below hb1
  cases hV : validB a with
  | false =>
    have HE : Hid (trimIT a = zeroAut) := Lib.hid (by unfold trimIT; rw [if_neg (by rw [hV]; simp)])
    go_wp2
    refine bodyPost_ret (v := .agg #[.int .i64 0, .slice none 0 0, .slice none 0 0]) (by simp [results, Tryz.results14, go_sem, q0, q1, q2]) rfl ?_
    rw [HE.out]
    exact AutRes.zero hbz (by omega)
  | true =>
    have hok := validB_iff.1 hV
    have HE : Hid (trimIT a = trimI a) := Lib.hid (by unfold trimIT; rw [if_pos hV])
    go_wp2_with fail
    refine (trim_any a _ w1 p hP1 hok.2 (by omega)).mono ?_
    rintro e w2 ⟨v1, rfl, hA, hb2⟩
    obtain ⟨A3, n3, c3, A4, n4, c4, hv1, _, _⟩ := id hA
    have hR2 := hR1.below hb2 hR1.lt
    have r0 := hR2.cell 0; have r1 := hR2.cell 1; have r2 := hR2.cell 2
    simp at r0 r1 r2
    have y0 := hR2.frozen 0; have y1 := hR2.frozen 1; have y2 := hR2.frozen 2
    have hbz2 : Below w.heap.size w w2 := hbz.trans (hb2.mono (by omega))
    have hsz2 : w.heap.size + 1 + 1 ≤ w2.heap.size := Nat.le_trans hsz hb2.size
    rw [← HE.out] at hA hv1
    subst hv1
    clear hb1 hb2 hP hP1 hB hB1 hR hR1 hW q0 q1 q2 z0 z1 z2 hok f0 f1 f2
    go_wp2
    refine bodyPost_ret (v := .agg #[.int .i64 (trimIT a).start, .slice A3 n3 c3, .slice A4 n4 c4]) (by simp [results, Tryz.results14, go_sem, r0, r1, r2]) rfl ?_
    exact AutRes.set3 hA (by omega) hbz2 (by omega)

theorem iota_snoc (k : Nat) : iota (k + 1) = iota k ++ [(k : Int)] := by simp [iota, List.range_succ]
theorem iota_at {n s : Nat} (h : s < n) : (iota n)[s]?.getD 0 = s := by simp [iota, h]

set_option maxHeartbeats 1000000 in
set_option maxRecDepth 100000 in
theorem specTrim_any (a : Aut) (v : Value) (w : World) (p : Nat → Prop) (h : AutV w p v a) :
    Calls Tryz.prog 16 #[v] w fun e w' => AutRes w w' (trimST a) e := by
  obtain ⟨A1, n1, c1, A2, n2, c2, rfl, hl1, _⟩ := id h
  obtain rfl : a.n = n1 := hl1.lenb
  have hP := (h.alloc (.cells #[.int .i64 a.start, .slice A1 a.n c1, .slice A2 n2 c2] 31)).alloc (.cells #[.int .i64 0, .slice none 0 0, .slice none 0 0] 31)
  have hB := (Blk.new w 31 #[.int .i64 a.start, .slice A1 a.n c1, .slice A2 n2 c2]).alloc (.cells #[.int .i64 0, .slice none 0 0, .slice none 0 0] 31)
  have hR : Blk ((w.alloc (.cells #[.int .i64 a.start, .slice A1 a.n c1, .slice A2 n2 c2] 31)).alloc (.cells #[.int .i64 0, .slice none 0 0, .slice none 0 0] 31)) (w.heap.size + 1) 31 #[.int .i64 0, .slice none 0 0, .slice none 0 0] := by
    have := Blk.new (w.alloc (.cells #[.int .i64 a.start, .slice A1 a.n c1, .slice A2 n2 c2] 31)) 31 #[.int .i64 0, .slice none 0 0, .slice none 0 0]
    rwa [size_alloc] at this
  have hW := below_alloc2 w (.cells #[.int .i64 a.start, .slice A1 a.n c1, .slice A2 n2 c2] 31) (.cells #[.int .i64 0, .slice none 0 0, .slice none 0 0] 31)
  go_enter Tryz.func16, Tryz.ntmps16
  go_wp2_with fail
  refine (specValid_any a _ _ p hP).mono ?_; rintro e w1 ⟨rfl, hb1⟩
  have hR1 := hR.below hb1 hR.lt
  have q0 := hR1.cell 0; have q1 := hR1.cell 1; have q2 := hR1.cell 2
  have hB1 := hB.below hb1 hB.lt
  have f0 := hB1.cell 0; have f1 := hB1.cell 1; have f2 := hB1.cell 2
  simp at q0 q1 q2 f0 f1 f2
  have z0 := hR1.frozen 0; have z1 := hR1.frozen 1; have z2 := hR1.frozen 2
  have hbz : Below w.heap.size w w1 := hW.trans (hb1.mono (by simp; omega))
  have hsz : w.heap.size + 1 + 1 ≤ w1.heap.size := by have := hb1.size; simp at this; omega
  have hP1 := (hP.weak (fun b _ h => (h : b < _))).below hb1
  cases hV : validB a with
  | false =>
    have HE : Hid (trimST a = zeroAut) := Lib.hid (by unfold trimST; rw [if_neg (by rw [hV]; simp)])
    go_wp2
    refine bodyPost_ret (v := .agg #[.int .i64 0, .slice none 0 0, .slice none 0 0]) (by simp [results, Tryz.results16, go_sem, q0, q1, q2]) rfl ?_
    rw [HE.out]
    exact AutRes.zero hbz (by omega)
  | true =>
    have hok := validB_iff.1 hV
    have HE : Hid (trimST a = numAut a (iota a.n) (liveF a)) := Lib.hid (by unfold trimST trimS; rw [if_pos hV])
    have hn12 : a.n ≤ 12 := hok.1
    clear q0 q1 q2 z0 z1 z2
    go_wp2_with fail
    go_loopw [3, 4] (fun v kv wr => ∃ k g c, k ≤ a.n ∧ kv = .int .i64 (k : Nat) ∧ v = .slice (some ⟨g, 0, none⟩) k c ∧ wr.ownsRow w1.heap.size 3 1 v k (ints (iota k)) ∧ Below w1.heap.size w1 wr) (fun _ k _ => a.n - (intOf k).toNat)
    case atStart => exact ⟨0, _, _, by omega, rfl, rfl, own0 (by simp) (by omega), below_alloc _ _⟩
    case round =>
      obtain ⟨k, g, c, hk, rfl, rfl, ho, hb⟩ := hrel
      have hB2 := hB1.below hb hB1.lt
      clear f0 f1 f2
      have f0 := hB2.cell 0; have f1 := hB2.cell 1; have f2 := hB2.cell 2
      simp at f0 f1 f2
      by_cases hkn : k < a.n
      · have HS := Lib.hid (iota_snoc k)
        go_wp2_with (at_builtin; refine wpList_app1 elInt rfl (.tmp 17) (.tmp 19) rfl w1.heap.size _ k _ rfl ho #[.int .i64 k] _ rfl (by simp) rfl (by simp [Value.oneCell']) (by omega) (by omega) hb.size ?_; intro g4 c4 w4 ho4 hg4 _ _ _; have hb4 := hb.grown hg4 hb.size (own_ge ho))
        go_roundw
        case rel => exact ⟨k + 1, g4, c4, by omega, by go_num, rfl, by rw [HS.out, ← ints_snoc]; exact ho4, hb4⟩
        case measure => simp [intOf]; omega
      · obtain rfl : k = a.n := by omega
        have hP2 := hP1.below hb
        have hB2 := hB1.below hb hB1.lt
        have hR2 := hR1.below hb hR1.lt
        go_upto_region 8 with fail
        have hS0 : (fun w' : World => w'.cell? ⟨w.heap.size, 0, none⟩ = some (.int .i64 a.start) ∧ w'.cell? ⟨w.heap.size, 1, none⟩ = some (.slice A1 a.n c1) ∧ w'.cell? ⟨w.heap.size, 2, none⟩ = some (.slice A2 n2 c2)) wr.drew := ⟨f0, f1, f2⟩
        refine wp_region_X (fun w' : World => w'.cell? ⟨w.heap.size, 0, none⟩ = some (.int .i64 a.start) ∧ w'.cell? ⟨w.heap.size, 1, none⟩ = some (.slice A1 a.n c1) ∧ w'.cell? ⟨w.heap.size, 2, none⟩ = some (.slice A2 n2 c2)) 5 (by kernel_rfl) ?_
        (refine wpX_take (i := 0) (v := ?_) (by simp only [List.getElem?_toArray, List.getElem?_cons_succ, List.getElem?_cons_zero]; rfl) (by kernel_rfl) (by kernel_rfl) (by kernel_rfl) (by kernel_rfl) (by exact fun _ _ _ h => h) (Or.inl ⟨by rfl, ?_⟩) (by assumption) ?_; rotate_left; (intro w hSw; (try dsimp only at hSw); go_simp); (try with_reducible rfl); (try simp only [Act.put, List.setIfInBounds_toArray, List.set_cons_zero, List.set_cons_succ]))
        (refine wpX_take (i := 1) (v := ?_) (by simp only [List.getElem?_toArray, List.getElem?_cons_succ, List.getElem?_cons_zero]; rfl) (by kernel_rfl) (by kernel_rfl) (by kernel_rfl) (by kernel_rfl) (by exact fun _ _ _ h => h) (Or.inl ⟨by rfl, ?_⟩) (by assumption) ?_; rotate_left; (intro w hSw; (try dsimp only at hSw); go_simp); (try with_reducible rfl); (try simp only [Act.put, List.setIfInBounds_toArray, List.set_cons_zero, List.set_cons_succ]))
        (refine wpX_take (i := 2) (v := ?_) (by simp only [List.getElem?_toArray, List.getElem?_cons_succ, List.getElem?_cons_zero]; rfl) (by kernel_rfl) (by kernel_rfl) (by kernel_rfl) (by kernel_rfl) (by exact fun _ _ _ h => h) (Or.inl ⟨by rfl, ?_⟩) (by assumption) ?_; rotate_left; (intro w hSw; (try dsimp only at hSw); go_simp); (try with_reducible rfl); (try simp only [Act.put, List.setIfInBounds_toArray, List.set_cons_zero, List.set_cons_succ]))
        refine wpX_one (i := 3) (by kernel_rfl) (by simp only [List.getElem?_toArray, List.getElem?_cons_succ, List.getElem?_cons_zero]; rfl) (fun K hK => ?_)
        go_simp
        refine (l11Live_any a _ _ _ hP2.drew hok.2 (by omega)).mono ?_
        rintro e w3 ⟨g3, cap3, rfl, hown3, hb3⟩
        have hB3 : Blk w3 w.heap.size 31 #[.int .i64 a.start, .slice A1 a.n c1, .slice A2 n2 c2] := Blk.below (w := wr.drew) hB2 hb3 hB2.lt
        have s1 : (fun w' : World => w'.cell? ⟨w.heap.size, 0, none⟩ = some (.int .i64 a.start) ∧ w'.cell? ⟨w.heap.size, 1, none⟩ = some (.slice A1 a.n c1) ∧ w'.cell? ⟨w.heap.size, 2, none⟩ = some (.slice A2 n2 c2)) w3 := ⟨hB3.cell 0, hB3.cell 1, hB3.cell 2⟩
        (refine hK.out _ _ (Or.inr s1) ?_; clear hK; (try simp only [Act.put, List.setIfInBounds_toArray, List.set_cons_zero, List.set_cons_succ]))
        have hP3 := hP2.drew.below hb3
        have hC3 : Sl w3 (fun _ => True) 1 (some ⟨g, 0, none⟩) a.n (ints (iota a.n)) := (Sl.of_own (w := wr) ho (fun _ _ => trivial)).below (w := wr.drew) hb3 (fun b _ h => h)
        have hL3 : Sl w3 (fun _ => True) 1 (some ⟨g3, 0, none⟩) a.n (bools (liveF a)) := Sl.of_own hown3 (fun _ _ => trivial)
        refine wpX_one (i := 4) (by kernel_rfl) (by simp only [List.getElem?_toArray, List.getElem?_cons_succ, List.getElem?_cons_zero]; rfl) (fun K hK => ?_)
        go_simp
        refine (l11Number_any a _ (iota a.n) (liveF a) _ _ c cap3 w3 _ _ _ hP3 hok.2 hC3 hL3 (by omega) (fun s hs _ => by rw [iota_at hs]; omega)).mono ?_
        rintro e w4 ⟨v1, rfl, hA, hb4⟩
        obtain ⟨A3, n3, c3, A4, n4, c4, hv1, _, _⟩ := id hA
        rw [← HE.out] at hA hv1
        subst hv1
        have hB4 := hB3.below hb4 hB3.lt
        have s2 : (fun w' : World => w'.cell? ⟨w.heap.size, 0, none⟩ = some (.int .i64 a.start) ∧ w'.cell? ⟨w.heap.size, 1, none⟩ = some (.slice A1 a.n c1) ∧ w'.cell? ⟨w.heap.size, 2, none⟩ = some (.slice A2 n2 c2)) w4 := ⟨hB4.cell 0, hB4.cell 1, hB4.cell 2⟩
        (refine hK.out _ _ (Or.inr s2) ?_; clear hK; (try simp only [Act.put, List.setIfInBounds_toArray, List.set_cons_zero, List.set_cons_succ]))
        have hR3 : Blk w3 (w.heap.size + 1) 31 #[.int .i64 0, .slice none 0 0, .slice none 0 0] := Blk.below (w := wr.drew) hR2 hb3 hR2.lt
        have hR4 := hR3.below hb4 hR3.lt
        have r0 := hR4.cell 0; have r1 := hR4.cell 1; have r2 := hR4.cell 2
        simp at r0 r1 r2
        have y0 := hR4.frozen 0; have y1 := hR4.frozen 1; have y2 := hR4.frozen 2
        have hsr : w1.heap.size ≤ wr.heap.size := hb.size
        have hbz3 : Below w.heap.size w w3 := (hbz.trans (hb.mono (by omega))).trans (((Below.refl wr.heap.size wr).drew.trans hb3).mono (by omega))
        have hs3 : wr.heap.size ≤ w3.heap.size := hb3.size
        have hbz4 : Below w.heap.size w w4 := hbz3.trans (hb4.mono (by omega))
        refine wpX_one (i := 5) (by kernel_rfl) (by simp only [List.getElem?_toArray, List.getElem?_cons_succ, List.getElem?_cons_zero]; rfl) (fun K hK => ?_)
        go_simp
        (refine hK.out _ _ (Or.inl rfl) ?_; clear hK; (try simp only [Act.put, List.setIfInBounds_toArray, List.set_cons_zero, List.set_cons_succ]))
        refine wpX_done (by kernel_rfl) ?_ _
        go_wp2
        refine bodyPost_ret (v := .agg #[.int .i64 (trimST a).start, .slice A3 n3 c3, .slice A4 n4 c4]) (by simp [results, Tryz.results16, go_sem, r0, r1, r2]) rfl ?_
        exact AutRes.set3 hA (by omega) hbz4 (by omega)
end Go.Proofs.YtmnhpbbapkcdjaaGreat

/- Walks: drawing an automaton at random. -/
namespace Go.Proofs.YtmnhpbbapkcdjaaGreat
open Go.RowKit

/-- there is a state 0, and its row has nine places -/
def Row0 (a : Aut) : Prop := (∃ r l, a.next = r :: l ∧ r.length = 9) ∧ a.acc.length ≤ 1000
/-- some automaton, in memory of the call's own -/
def SomeAut (w w' : World) (p : Nat → Prop) (g : Nat) (e : Ending) : Prop := ∃ v a, e = .returned v ∧ AutO w' w.heap.size v a ∧ Drawn w w' p g ∧ Row0 a
set_option maxHeartbeats 1000000 in
set_option maxRecDepth 100000 in
theorem l11Random_any (g : Nat) (p : Nat → Prop) (w : World) (h : Cur w p g) (hp : ∀ b, p b → b < g) (hg : g < w.heap.size) :
    Calls Tryz.prog 87 #[.pointer (some ⟨g, 0, none⟩)] w fun e w' => SomeAut w w' p g e := by
  have hpn : ∀ b, p b → b ≠ g := fun b hb e => by have := hp b hb; omega
  go_enter Tryz.func87, Tryz.ntmps87
  go_wp2_with fail
  refine (l1Below_any g 4 p _ (h.keep (below_alloc w _)) hpn (by omega) (by omega)).mono ?_
  rintro e w1 ⟨r, rfl, hr, hd⟩
  obtain ⟨n, hn, hn1, hn4⟩ : ∃ n : Nat, 1 + (r : Int) = n ∧ 1 ≤ n ∧ n ≤ 4 := ⟨1 + r, by omega, by omega, by omega⟩
  obtain ⟨W0, hW0⟩ : ∃ W0, W0 = w.alloc (.cells #[.int .i64 0, .slice none 0 0, .slice none 0 0] 31) := ⟨_, rfl⟩
  have hRB : Blk W0 w.heap.size 31 #[.int .i64 0, .slice none 0 0, .slice none 0 0] := by rw [hW0]; exact Blk.new _ _ _
  have hs0 : W0.heap.size = w.heap.size + 1 := by rw [hW0, size_alloc]
  have hbW : Below w.heap.size w W0 := by rw [hW0]; exact below_alloc _ _
  rw [← hW0] at hd
  have hg0 : g < W0.heap.size := by omega
  go_wp2_with fail
  refine (l1Below_any g n p _ hd.2 hpn (by omega) (by omega)).mono ?_
  rintro e w2 ⟨st, rfl, hst, hd2⟩
  have hd3 := hd.trans hd2
  have hsz := hd3.1.size
  have hR0 : Rnd W0 p g W0.heap.size [] [] [] (.slice none 0 0) (.slice none 0 0) w2.heap.size (st : Int) (w2.alloc (.cells #[.int .i64 st, .slice none 0 0, .slice none 0 0] 31)) :=
    ⟨World.ownsRow_nil _ _ _ _, World.ownsRow_nil _ _ _ _, IRows.nil_, Blk.new _ _ _, hsz, hd3.bel (below_alloc _ _), hg0, Nat.le_refl _, hp⟩
  have hCu := Lib.hid h
  clear hd hd2 hd3 hW0 h hn hr
  go_wp2_with fail
  go_loopw [5] (fun iv wr => ∃ k acc fin va vn, k ≤ n ∧ iv = .int .i64 (k : Nat) ∧ acc.length = k ∧ fin.length = k ∧ (∀ q ∈ fin, q.2.length = 9) ∧ Rnd W0 p g W0.heap.size acc [] fin va vn w2.heap.size (st : Int) wr) (fun iv _ => n - (intOf iv).toNat)
  case atStart => exact ⟨0, [], [], _, _, by omega, rfl, rfl, rfl, by simp, hR0⟩
  case round =>
    clear hR0
    obtain ⟨k, acc, fin, va, vn, hk, rfl, hal, hfl, h9, hR⟩ := hrel
    have H9 := Lib.hid h9; clear h9
    by_cases hlt : k < n
    · have hkn : (k : Int) < (n : Int) := by omega
      have hR1 := hR.new rfl hR.dr.1.size
      clear hR
      go_wp2_with fail
      go_loopw [6, 7] (fun v6 v7 wr => ∃ j gx c xs, j ≤ 9 ∧ v7 = .int .i64 (j : Nat) ∧ v6 = .slice (some ⟨gx, 0, none⟩) j c ∧ xs.length = j ∧ Rnd W0 p g W0.heap.size acc [(v6, xs)] fin va vn w2.heap.size (st : Int) wr) (fun _ v _ => 9 - (intOf v).toNat)
      case atStart => exact ⟨0, _, _, [], by omega, rfl, rfl, rfl, hR1⟩
      case round =>
        clear hR1
        obtain ⟨j, gx, cx, xs, hj, rfl, rfl, hxl, hR⟩ := hrel
        have HXL := Lib.hid hxl; clear hxl
        by_cases hj9 : j < 9
        · have hji : (j : Int) < 9 := by omega
          go_wp2_with fail
          refine (l1Once_any g 3 p _ hR.dr.2 hpn (by omega) (by omega)).mono ?_
          rintro e w3 ⟨r, rfl, hd3⟩
          have hR3 := hR.drawn hd3
          have hsz3 := hR3.dr.1.size
          cases r with
          | true =>
            by_cases h3 : 3 < j
            · have h3i : (3 : Int) < (j : Int) := by omega
              go_wp2_with (at_builtin; refine wpList_app1 elInt rfl (.tmp 34) (.tmp 36) rfl W0.heap.size _ j (ints xs) rfl (by have := IRows.head (L := fin) hR3.rows; rwa [HXL.out] at this) #[.int .i64 (-1)] _ rfl (by simp) rfl (by simp [Value.oneCell']) (by omega) (by omega) hsz3 ?_; intro g5 c5 w5 ho5 hg5 hb5 _ _; have hR5 := hR3.app HXL.out.symm ho5 hg5 hb5)
              go_roundw
              case rel => exact ⟨j + 1, g5, c5, xs ++ [-1], by omega, by go_num, rfl, by simp [HXL.out], hR5⟩
              case measure => simp [intOf]; omega
            · have h3i : ¬ (3 : Int) < (j : Int) := by omega
              go_wp2_with (at_builtin; refine wpList_app1 elInt rfl (.tmp 34) (.tmp 36) rfl W0.heap.size _ j (ints xs) rfl (by have := IRows.head (L := fin) hR3.rows; rwa [HXL.out] at this) #[.int .i64 (-1)] _ rfl (by simp) rfl (by simp [Value.oneCell']) (by omega) (by omega) hsz3 ?_; intro g5 c5 w5 ho5 hg5 hb5 _ _; have hR5 := hR3.app HXL.out.symm ho5 hg5 hb5)
              go_roundw
              case rel => exact ⟨j + 1, g5, c5, xs ++ [-1], by omega, by go_num, rfl, by simp [HXL.out], hR5⟩
              case measure => simp [intOf]; omega
          | false =>
            go_wp2_with fail
            refine (l1Below_any g n p _ hR3.dr.2 hpn (by omega) (by omega)).mono ?_
            rintro e w4 ⟨x, rfl, _, hd4⟩
            have hR4 := hR3.drawn hd4
            have hsz4 := hR4.dr.1.size
            by_cases h3 : 3 < j
            · have h3i : (3 : Int) < (j : Int) := by omega
              go_wp2_with (at_builtin; refine wpList_app1 elInt rfl (.tmp 34) (.tmp 36) rfl W0.heap.size _ j (ints xs) rfl (by have := IRows.head (L := fin) hR4.rows; rwa [HXL.out] at this) #[.int .i64 (-1)] _ rfl (by simp) rfl (by simp [Value.oneCell']) (by omega) (by omega) hsz4 ?_; intro g5 c5 w5 ho5 hg5 hb5 _ _; have hR5 := hR4.app HXL.out.symm ho5 hg5 hb5)
              go_roundw
              case rel => exact ⟨j + 1, g5, c5, xs ++ [-1], by omega, by go_num, rfl, by simp [HXL.out], hR5⟩
              case measure => simp [intOf]; omega
            · have h3i : ¬ (3 : Int) < (j : Int) := by omega
              go_wp2_with (at_builtin; refine wpList_app1 elInt rfl (.tmp 34) (.tmp 36) rfl W0.heap.size _ j (ints xs) rfl (by have := IRows.head (L := fin) hR4.rows; rwa [HXL.out] at this) #[.int .i64 x] _ rfl (by simp) rfl (by simp [Value.oneCell']) (by omega) (by omega) hsz4 ?_; intro g5 c5 w5 ho5 hg5 hb5 _ _; have hR5 := hR4.app HXL.out.symm ho5 hg5 hb5)
              go_roundw
              case rel => exact ⟨j + 1, g5, c5, xs ++ [(x : Int)], by omega, by go_num, rfl, by simp [HXL.out], hR5⟩
              case measure => simp [intOf]; omega
        · obtain rfl : j = 9 := by omega
          have x1 := hR.out.cell 1
          simp at x1
          have hgo := hR.out.lt
          have hbs := hR.dr.1.size
          go_upto_region 16 with fail
          go_cut [41, 43] (fun _ _ wx => ∃ acc' va', acc'.length = k + 1 ∧ Rnd W0 p g W0.heap.size acc' [(.slice (some ⟨gx, 0, none⟩) 9 cx, xs)] fin va' vn w2.heap.size (st : Int) wx)
          case first =>
            have hS0 : (fun w' : World => w'.cell? ⟨w2.heap.size, 1, none⟩ = some va) wr.drew := x1
            refine wp_region_X (fun w' : World => w'.cell? ⟨w2.heap.size, 1, none⟩ = some va) 7 (by kernel_rfl) ?_
            (refine wpX_take (i := 0) (v := ?_) (by simp only [List.getElem?_toArray, List.getElem?_cons_succ, List.getElem?_cons_zero]; rfl) (by kernel_rfl) (by kernel_rfl) (by kernel_rfl) (by kernel_rfl) (by exact fun _ _ _ h => h) (Or.inl ⟨by rfl, ?_⟩) (by assumption) ?_; rotate_left; (intro w hSw; (try dsimp only at hSw); go_simp); (try with_reducible rfl); (try simp only [Act.put, List.setIfInBounds_toArray, List.set_cons_zero, List.set_cons_succ]))
            (refine wpX_take (i := 1) (v := ?_) (by simp only [List.getElem?_toArray, List.getElem?_cons_succ, List.getElem?_cons_zero]; rfl) (by kernel_rfl) (by kernel_rfl) (by kernel_rfl) (by kernel_rfl) (by exact fun _ _ _ h => h) (Or.inl ⟨by rfl, ?_⟩) (by assumption) ?_; rotate_left; (intro w hSw; (try dsimp only at hSw); go_simp); (try with_reducible rfl); (try simp only [Act.put, List.setIfInBounds_toArray, List.set_cons_zero, List.set_cons_succ]))
            (refine wpX_take (i := 2) (v := ?_) (by simp only [List.getElem?_toArray, List.getElem?_cons_succ, List.getElem?_cons_zero]; rfl) (by kernel_rfl) (by kernel_rfl) (by kernel_rfl) (by kernel_rfl) (by exact fun _ _ _ h => h) (Or.inl ⟨by rfl, ?_⟩) (by assumption) ?_; rotate_left; (intro w hSw; (try dsimp only at hSw); go_simp); (try with_reducible rfl); (try simp only [Act.put, List.setIfInBounds_toArray, List.set_cons_zero, List.set_cons_succ]))
            refine wpX_one (i := 3) (by kernel_rfl) (by simp only [List.getElem?_toArray, List.getElem?_cons_succ, List.getElem?_cons_zero]; rfl) (fun K hK => ?_)
            go_simp
            have hRd := hR.drawn (Drawn.of hR.dr.2 ((Below.refl wr.heap.size wr).drew))
            refine (l1Once_any g 3 p _ hRd.dr.2 hpn (by omega) (by omega)).mono ?_
            rintro e w3 ⟨r, rfl, hd3⟩
            have hR3 := hRd.drawn hd3
            have s1 : (fun w' : World => w'.cell? ⟨w2.heap.size, 1, none⟩ = some va) w3 := hR3.out.cell 1
            (refine hK.out _ _ (Or.inr s1) ?_; clear hK; (try simp only [Act.put, List.setIfInBounds_toArray, List.set_cons_zero, List.set_cons_succ]))
            have s2 : (fun w' : World => w'.cell? ⟨w2.heap.size, 1, none⟩ = some va) (w3.alloc (.cells #[.bool r] 4)) := (hR3.bel (below_alloc w3 (.cells #[.bool r] 4))).out.cell 1
            refine wpX_one (i := 4) (by kernel_rfl) (by simp only [List.getElem?_toArray, List.getElem?_cons_succ, List.getElem?_cons_zero]; rfl) (fun K hK => ?_)
            go_simp
            (refine hK.out _ _ (Or.inr s2) ?_; clear hK; (try simp only [Act.put, List.setIfInBounds_toArray, List.set_cons_zero, List.set_cons_succ]))
            refine wpX_one (i := 5) (by kernel_rfl) (by simp only [List.getElem?_toArray, List.getElem?_cons_succ, List.getElem?_cons_zero]; rfl) (fun K hK => ?_)
            refine step_app1 elBool (by rfl) (.tmp 39) (.tmp 42) (by rfl) W0.heap.size va acc.length (bools acc) (by rfl) hR3.acc #[.bool r] _ (by rfl) (by simp) rfl (by simp [Value.oneCell']) (by omega) (by omega) hR3.dr.1.size ?_
            intro g6 c6 w6 ho6 hg6 hb6 _ _
            have hR6 := hR3.putAcc (b := r) (by rw [← bools_snoc]; simpa using ho6) hg6
            have ho1 := hR3.out.grown hg6 (own_blk_ne hR3.acc hR3.out (by decide))
            have y1 := ho1.cell 1
            have z1 := ho1.frozen 1
            have s3 : (fun w' : World => w'.cell? ⟨w2.heap.size, 1, none⟩ = some va) w6 := y1
            (refine hK.out _ _ (Or.inr s3) ?_; clear hK; (try simp only [Act.put, List.setIfInBounds_toArray, List.set_cons_zero, List.set_cons_succ]))
            simp at y1
            (refine wpX_take (i := 6) (v := ?_) (by simp only [List.getElem?_toArray, List.getElem?_cons_succ, List.getElem?_cons_zero]; rfl) (by kernel_rfl) (by kernel_rfl) (by kernel_rfl) (by kernel_rfl) (by exact fun _ _ _ h => h) (Or.inl ⟨by rfl, ?_⟩) (by assumption) ?_; rotate_left; (intro w hSw; (try dsimp only at hSw); go_simp); (try with_reducible rfl); (try simp only [Act.put, List.setIfInBounds_toArray, List.set_cons_zero, List.set_cons_succ]))
            refine wpX_one (i := 7) (by kernel_rfl) (by simp only [List.getElem?_toArray, List.getElem?_cons_succ, List.getElem?_cons_zero]; rfl) (fun K hK => ?_)
            go_simp
            (refine hK.out _ _ (Or.inl rfl) ?_; clear hK; (try simp only [Act.put, List.setIfInBounds_toArray, List.set_cons_zero, List.set_cons_succ]))
            refine wpX_done (by kernel_rfl) ?_ _
            go_wp2_with fail
            go_meet
            rw [hal] at hR6
            exact ⟨acc ++ [r], _, by simp [hal], hR6⟩
          case rest =>
            obtain ⟨acc', va', hal', hR7⟩ := hcut
            have x2 := hR7.out.cell 2
            simp at x2
            have hbs7 := hR7.dr.1.size
            go_wp2_with (at_builtin; refine wpList_app1 elRow rfl (.tmp 46) (.tmp 48) rfl W0.heap.size vn fin.length (fin.map Prod.fst) rfl hR7.next #[.slice (some ⟨gx, 0, none⟩) 9 cx] _ rfl (by simp) rfl (by simp [Value.oneCell']) (by omega) (by omega) hbs7 ?_; intro g8 c8 w8 ho8 hg8 hb8 _ _; have ho9 := hR7.out.grown hg8 (own_blk_ne hR7.next hR7.out (by decide)); have y2 := ho9.cell 2; have z2 := ho9.frozen 2; simp at y2)
            have hR8 := hR7.putNext ho8 hg8
            go_roundw
            case rel => exact ⟨k + 1, acc', fin ++ [(.slice (some ⟨gx, 0, none⟩) 9 cx, xs)], va', _, by omega, by go_num, hal', by simp [hfl], fun q hq => by (rcases List.mem_append.1 hq with hq | hq); exact H9.out q hq; (simp at hq; subst hq; exact HXL.out), by simpa [hfl] using hR8⟩
            case measure => simp [intOf]; omega
    · have hkn : k = n := by omega
      have hRBx := hRB.grown hR.dr.1 (by simp; omega)
      have q0 := hRBx.cell 0; have q1 := hRBx.cell 1; have q2 := hRBx.cell 2
      have o0 := hR.out.cell 0; have o1 := hR.out.cell 1; have o2 := hR.out.cell 2
      simp at q0 q1 q2 o0 o1 o2
      have z0 := hRBx.frozen 0; have z1 := hRBx.frozen 1; have z2 := hRBx.frozen 2
      have hbs := hR.dr.1.size
      have hA : AutO wr W0.heap.size (.agg #[.int .i64 st, va, vn]) ⟨st, acc, fin.map Prod.snd⟩ := ⟨va, vn, fin, rfl, hR.acc, by simpa using hR.next, hR.rows, rfl⟩
      have hD := (Drawn.of hCu.out hbW).trans hR.dr
      have hRow : Row0 ⟨st, acc, fin.map Prod.snd⟩ := by
        refine ⟨?_, by show acc.length ≤ 1000; omega⟩
        cases fin with
        | nil => simp at hfl; omega
        | cons q l => exact ⟨q.2, l.map Prod.snd, rfl, H9.out q List.mem_cons_self⟩
      have HRow := Lib.hid hRow
      clear hRow hkn H9
      obtain ⟨A3, c3, rfl⟩ := own_form hR.acc
      obtain ⟨A4, c4, rfl⟩ := own_form hR.next
      rw [hal, hfl] at hA
      go_wp2
      refine bodyPost_ret (v := .agg #[.int .i64 st, .slice A3 k c3, .slice A4 k c4]) (by simp [results, Tryz.results87, go_sem, q0, q1, q2]) rfl ?_
      have hs : ∀ (W : World) (i : Nat) (u : Value), W.grownBy (W.setCell ⟨w.heap.size, i, none⟩ u) (some w.heap.size) := fun W i u => ⟨rfl, rfl, rfl, by simp, fun k hk hne => Below.heap_setCell W _ _ k (fun e => hne (by rw [e]))⟩
      have hlt' : ∀ b, some w.heap.size = some b → b < W0.heap.size := fun b e => by injection e with e; omega
      have hge' : ∀ b, some w.heap.size = some b → w.heap.size ≤ b := fun b e => by injection e with e; omega
      exact ⟨_, _, rfl, AutO.mono (base := W0.heap.size) (((hA.keep (hs _ _ _) hlt').keep (hs _ _ _) hlt').keep (hs _ _ _) hlt') (by omega), ((hD.grown (hs _ _ _) hg hp hge').grown (hs _ _ _) hg hp hge').grown (hs _ _ _) hg hp hge', HRow.out⟩
end Go.Proofs.YtmnhpbbapkcdjaaGreat
