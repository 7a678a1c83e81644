/- Plain law: both sides' numberings are one; what is minimized is minimal; lengths. No program in sight; Walks: determinization; Plain law: the subset automaton accepts what the positions match. No program in sight. No condition. -/
import Derived.Test.YtmnhpbbapkcdjaaGreatA26
import Derived.OpenShut

/- Plain law: both sides' numberings are one; what is minimized is minimal; lengths. No program in sight. -/
namespace Go.Proofs.YtmnhpbbapkcdjaaGreat

theorem nac_acB {a : Aut} {s : Int} (hs : GS a s) : acB a s = nac a s := by unfold acB nac; simp [hs.1]
/-- trimming: one and the same on both sides -/
theorem trim_same {a : Aut} (hf : a.Fits) : trimI a = trimS a := by
  unfold trimI trimS
  by_cases hl : (liveF a)[a.start.toNat]?.getD false = true
  · rw [if_pos hl]
    have hC := cong_iota hf
    have hg := hC.good hf
    have hG : Good (GS a) id (nnx a (liveF a)) a.n := ⟨hg.nx, fun l h1 h2 => hg.le l h1 (by
      have : l.map (cfun (iota a.n)) = l.map id := List.map_congr_left fun x hx => iota_cf (h1 x hx)
      rw [this]; exact h2)⟩
    have hs := start_gs hf hl
    have h1 : numbR (nnx a (liveF a)) (acB a) a.n a.start = some (numRunC id (nnx a (liveF a)) (acB a) (a.n + 2) 0 [a.start] [] []) :=
      numRun_C hG (a.n + 2) 0 [a.start] [] [] ⟨fun x hx => by simp at hx; subst hx; exact hs, by simp⟩ (by omega) (by omega)
    have h2 : numRunC id (nnx a (liveF a)) (acB a) (a.n + 2) 0 [a.start] [] [] = numRunC (cfun (iota a.n)) (nnx a (liveF a)) (nac a) (a.n + 2) 0 [a.start] [] [] := by
      refine Sim.run (R := fun s t => s = t ∧ GS a s) ⟨fun s t h => by rw [← h.1]; exact nac_acB h.2, fun s t k h hk => ?_, fun s t s' t' h h' => ?_⟩ _ _ _ _ _ _ (.cons ⟨rfl, hs⟩ .nil)
      · rw [← h.1]
        cases hx : nnx a (liveF a) s k with
        | none => trivial
        | some x => exact ⟨rfl, nnx_gs hf h.2 hk hx⟩
      · rw [← h.1, ← h'.1, iota_cf h.2, iota_cf h'.2]; rfl
    have h3 := numRunC_fuel (ac := nac a) hg (a.n + 2) (a.n + 1) 0 [a.start] [] [] ⟨fun x hx => by simp at hx; subst hx; exact hs, by simp⟩ (by omega) (by omega)
    rw [h1, h2, h3]
    unfold numAut numC
    rw [if_pos hl]
    rfl
  · rw [if_neg hl]
    exact (numAut_dead hl).symm
/-- the first state of a class -/
theorem first_of {a : Aut} {t : Int} (ht : GS a t) : GS a (findI (cfun (clsF a) t) (clsF a) 0) ∧ cfun (clsF a) (findI (cfun (clsF a) t) (clsF a) 0) = cfun (clsF a) t := by
  have hlen := clsF_len a
  have hm : cfun (clsF a) t ∈ clsF a := by
    unfold cfun
    exact clsF_mem (by have := ht.1; have := ht.2.1; omega)
  obtain ⟨j, h1, hj, h2⟩ := findI_at hm
  rw [h1]
  have e : cfun (clsF a) (j : Int) = cfun (clsF a) t := by
    unfold cfun
    simp only [Int.toNat_natCast]
    rw [getD_some hj, h2]
    rfl
  have hn : ¬ cfun (clsF a) t < 0 := live_cls (m := a.n + 1) ht
  refine ⟨⟨by omega, by omega, ?_⟩, e⟩
  have : 0 ≤ (clsF a)[j]?.getD 0 := by
    have e2 : cfun (clsF a) (j : Int) = (clsF a)[j]?.getD 0 := by unfold cfun; simp
    rw [← e2, e]; omega
  simpa using (clsF_nonneg (by omega)).1 this
/-- minimizing: one and the same on both sides -/
theorem min_same {a : Aut} (hf : a.Fits) : minI a = minS a := by
  unfold minI minS
  by_cases hl : (liveF a)[a.start.toNat]?.getD false = true
  · have hC := cong_cls hf
    have hg := hC.good hf
    have hs := start_gs hf hl
    have h0 : ¬ (clsF a)[a.start.toNat]?.getD 0 < 0 := live_cls (m := a.n + 1) hs
    rw [if_neg h0]
    have hcN : ∀ t k, GS a t → k < 9 → OptR (fun c u => c = cfun (clsF a) u ∧ GS a u) (cNx a (clsF a) (cfun (clsF a) t) k) (nnx a (liveF a) t k) := fun t k ht hk => by
      obtain ⟨h1, h2⟩ := first_of ht
      have ho := hC.nx _ _ k h1 ht h2 hk
      unfold cNx
      generalize findI (cfun (clsF a) t) (clsF a) 0 = u at *
      have hr := fits_nx hf h1.1 h1.2.1 hk
      revert ho
      cases hx : nnx a (liveF a) u k with
      | none =>
        have hd := nnx_none hx
        cases hy : nnx a (liveF a) t k with
        | some y => intro ho; exact ho.elim
        | none =>
          intro _
          by_cases hn : a.nx u.toNat k < 0
          · rw [if_pos hn]; trivial
          · rw [if_neg hn, if_pos]
            · trivial
            · have := mt (clsF_nonneg (a := a) (s := (a.nx u.toNat k).toNat) (by omega)).1 (fun hh => hd ⟨by omega, hh⟩)
              omega
      | some x =>
        obtain ⟨x1, x2, rfl⟩ := nnx_some hx
        cases hy : nnx a (liveF a) t k with
        | none => intro ho; exact ho.elim
        | some y =>
          intro ho
          have := (clsF_nonneg (a := a) (s := (a.nx u.toNat k).toNat) (by omega)).2 x2
          rw [if_neg (by omega), if_neg (by omega)]
          exact ⟨ho, nnx_gs hf ht hk hy⟩
    have hG : Good (fun c => ∃ t, GS a t ∧ c = cfun (clsF a) t) id (cNx a (clsF a)) a.n := by
      refine ⟨fun c k d hc hk e => ?_, fun l h1 h2 => ?_⟩
      · obtain ⟨t, ht, rfl⟩ := hc
        have := hcN t k ht hk
        rw [e] at this
        revert this
        cases nnx a (liveF a) t k with
        | none => exact fun h => h.elim
        | some y => exact fun h => ⟨y, h.2, h.1⟩
      · exact nodup_bound a.n l (by simpa using h2) fun x hx => by
          obtain ⟨t, ht, rfl⟩ := h1 x hx
          exact hC.rng t.toNat (by have := ht.1; have := ht.2.1; omega) ht.2.2
    have e0 : (clsF a)[a.start.toNat]?.getD 0 = cfun (clsF a) a.start := rfl
    rw [e0]
    have h1 : numbR (cNx a (clsF a)) (cAc a (clsF a)) a.n (cfun (clsF a) a.start) = some (numRunC id (cNx a (clsF a)) (cAc a (clsF a)) (a.n + 2) 0 [cfun (clsF a) a.start] [] []) :=
      numRun_C hG (a.n + 2) 0 _ [] [] ⟨fun x hx => by simp at hx; subst hx; exact ⟨_, hs, rfl⟩, by simp⟩ (by omega) (by omega)
    have h2 : numRunC id (cNx a (clsF a)) (cAc a (clsF a)) (a.n + 2) 0 [cfun (clsF a) a.start] [] [] = numRunC (cfun (clsF a)) (nnx a (liveF a)) (nac a) (a.n + 2) 0 [a.start] [] [] := by
      refine Sim.run (R := fun c t => c = cfun (clsF a) t ∧ GS a t) ⟨fun c t h => ?_, fun c t k h hk => ?_, fun c t c' t' h h' => ?_⟩ _ _ _ _ _ _ (.cons ⟨rfl, hs⟩ .nil)
      · obtain ⟨rfl, ht⟩ := h
        obtain ⟨h1, h2⟩ := first_of ht
        exact hC.ac _ _ h1 ht h2
      · obtain ⟨rfl, ht⟩ := h
        exact hcN t k ht hk
      · rw [h.1, h'.1]; rfl
    have h3 := numRunC_fuel (ac := nac a) hg (a.n + 2) (a.n + 1) 0 [a.start] [] [] ⟨fun x hx => by simp at hx; subst hx; exact hs, by simp⟩ (by omega) (by omega)
    rw [h1, h2, h3]
    unfold numAut numC
    rw [if_pos hl]
    rfl
  · have h0 : (clsF a)[a.start.toNat]?.getD 0 < 0 := by
      have := mt (clsF_nonneg (a := a) (s := a.start.toNat) (by have := hf.1; have := hf.2.1; omega)).1 hl
      omega
    rw [if_pos h0]
    exact (numAut_dead hl).symm

theorem nodup_sub : ∀ (l m : List Int), l.Nodup → (∀ x ∈ l, x ∈ m) → l.length ≤ m.length
  | [], m, _, _ => by simp
  | x :: l, m, hn, h => by
    obtain ⟨h1, h2⟩ := List.nodup_cons.1 hn
    have := nodup_sub l (m.erase x) h2 (fun y hy => (List.mem_erase_of_ne (fun e => h1 (by rw [← e]; exact hy))).2 (h y (List.mem_cons_of_mem _ hy)))
    have hx := h x List.mem_cons_self
    have hpos := List.length_pos_of_mem hx
    rw [List.length_erase_of_mem hx] at this
    simp
    omega
/-- as many states at most as the trimmed one has -/
theorem min_le_trim {a : Aut} (hf : a.Fits) : (minS a).n ≤ (trimS a).n := by
  unfold minS trimS
  by_cases hl : (liveF a)[a.start.toNat]?.getD false = true
  · have hC := cong_cls hf
    have hI := cong_iota hf
    rw [numAut_n hC hf hl, numAut_n hI hf hl]
    have hgC := fnd_good hC hf hl
    have hgI := fnd_good hI hf hl
    have hs := start_gs hf hl
    have hsub : GoodL (fun x => x ∈ fnd a (iota a.n)) (cfun (clsF a)) (fnd a (clsF a)) := by
      refine numL_good (most := a.n) ⟨fun s k t hs hk e => ?_, fun l h1 h2 => (hC.good hf).le l (fun x hx => hgI.g x (h1 x hx)) h2⟩ _ _ _ ⟨fun x hx => ?_, by simp⟩
      · have hm := (fnd_run hI hf hl).2 s hs k t hk e
        obtain ⟨y, hy, he⟩ := List.mem_map.1 hm
        rw [iota_cf (hgI.g y hy), iota_cf (nnx_gs hf (hgI.g s hs) hk e)] at he
        rw [← he]; exact hy
      · simp at hx
        subst hx
        obtain ⟨ex, he⟩ := fnd_start a (iota a.n)
        rw [he]; simp
    have hnd : (fnd a (clsF a)).Nodup := by
      have := hgC.nd
      unfold List.Nodup at this ⊢
      rw [List.pairwise_map] at this
      exact this.imp fun h e => h (by rw [e])
    exact nodup_sub _ _ hnd hsub.g
  · rw [numAut_dead hl, numAut_dead hl]
    exact Nat.le_refl _

theorem live_there {a x : Aut} (hf : a.Fits) (hl : (liveF a)[a.start.toNat]?.getD false = true) (hC : Cong a (clsF a)) (hx : x = numAut a (clsF a) (liveF a)) :
    ∀ s, Live a s → ∀ j : Nat, QL a (clsF a) s j → Live x j := by
  subst hx
  have hb := bis_num hC hf hl
  have hn := numAut_n hC hf hl
  intro s h
  induction h with
  | acc hs ha =>
    intro j hq
    have hlo := hb.lo _ _ hq
    have := hb.acc _ _ hq
    refine .acc (by omega) ?_
    rename_i s
    have e1 : acB a (s : Int) = true := by unfold acB; simpa using ha
    rw [e1] at this
    unfold acB at this
    simpa using this.symm
  | step hs hk h0 hlive ih =>
    rename_i s k
    intro j hq
    have hlo := hb.lo _ _ hq
    have hq2 := hb.nx _ _ k hq hk
    have e1 : nxI a (s : Int) k = a.nx s k := by unfold nxI; rw [if_neg (by omega)]; simp
    have e2 : nxI (numAut a (clsF a) (liveF a)) (j : Int) k = (numAut a (clsF a) (liveF a)).nx j k := by unfold nxI; rw [if_neg (by omega)]; simp
    rw [e1, e2] at hq2
    have hlv : (liveF a)[(a.nx s k).toNat]?.getD false = true := by
      have hr := (hf.2.2.2 s hs).2 k hk
      exact ((liveF_ok hf).2 _ (by omega)).2 hlive
    rcases hq2 with ⟨m, hm, hml, hg, hc⟩ | ⟨_, _, _, hd⟩
    · refine .step (by omega) hk (by omega) ?_
      have := ih m (.inl ⟨m, rfl, hml, by rw [Int.toNat_of_nonneg h0]; exact hg, by rw [Int.toNat_of_nonneg h0]; exact hc⟩)
      rw [hm]; simpa using this
    · exact absurd ⟨h0, hlv⟩ hd
/-- WHAT IS MINIMIZED IS MINIMAL. -/
theorem min_min {a : Aut} (hf : a.Fits) (hn12 : a.n ≤ 12) : isMinB (minS a) = true := by
  have hC := cong_cls hf
  have hfx := num_fits hC hf
  unfold isMinB
  have hv : validB (minS a) = true := validB_iff.2 ⟨by have := hfx.2; unfold minS; omega, hfx.1⟩
  rw [hv, min_same (show (minS a).Fits from hfx.1)]
  simp only [Bool.true_and]
  rw [eqA_iff]
  by_cases hl : (liveF a)[a.start.toNat]?.getD false = true
  · obtain ⟨x, hx⟩ : ∃ x, x = numAut a (clsF a) (liveF a) := ⟨_, rfl⟩
    have hxe : minS a = x := by rw [hx]; rfl
    rw [hxe]
    have hfX : x.Fits := by rw [← hxe]; exact hfx.1
    have hnX := numAut_n hC hf hl
    rw [← hx] at hnX
    have hCX := cong_cls hfX
    have hgL := fnd_good hC hf hl
    have hb := bis_num hC hf hl
    rw [← hx] at hb
    -- every state of x is live
    have hlive : ∀ j : Nat, j < x.n → (liveF x)[j]?.getD false = true := fun j hj => by
      have hjl : j < (fnd a (clsF a)).length := by omega
      have hg := hgL.g _ (List.getElem_mem hjl)
      have hL : Live a (fnd a (clsF a))[j].toNat := ((liveF_ok hf).2 _ (by have := hg.1; have := hg.2.1; omega)).1 hg.2.2
      refine ((liveF_ok hfX).2 j hj).2 (live_there hf hl hC hx _ hL j (.inl ⟨j, rfl, hjl, ?_, ?_⟩))
      · rw [Int.toNat_of_nonneg hg.1]; exact hg
      · rw [Int.toNat_of_nonneg hg.1]
    have hGX : ∀ j : Nat, j < x.n → GS x j := fun j hj => ⟨by omega, by omega, by simpa using hlive j hj⟩
    have hstart : x.start = 0 := by rw [hx, numAut_eq hC hf hl]
    -- states of a and of x that belong together
    have hR : ∀ s (j : Nat), QL a (clsF a) s j → GS a s ∧ ∃ h : j < (fnd a (clsF a)).length, cfun (clsF a) s = cfun (clsF a) (fnd a (clsF a))[j] := fun s j hq => by
      rcases hq with ⟨m, hm, hml, hg, hc⟩ | ⟨hm, _⟩
      · obtain rfl : j = m := by omega
        exact ⟨hg, hml, hc⟩
      · omega
    have hnx : ∀ s (j : Nat) k, QL a (clsF a) s j → k < 9 → OptR (fun s j => ∃ m : Nat, j = m ∧ QL a (clsF a) s m) (nnx a (liveF a) s k) (nnx x (liveF x) j k) := fun s j k hq hk => by
      obtain ⟨hg, hjl, _⟩ := hR s j hq
      have hq2 := hb.nx _ _ k hq hk
      have e1 : nxI a s k = a.nx s.toNat k := by unfold nxI; rw [if_neg (by have := hg.1; omega)]
      have e2 : nxI x (j : Int) k = x.nx j k := by unfold nxI; rw [if_neg (by omega)]; simp
      rw [e1, e2] at hq2
      have hjx : j < x.n := by omega
      have hrx := (hfX.2.2.2 j hjx).2 k hk
      rcases hq2 with ⟨m, hm, hml, hg2, hc⟩ | ⟨hm, h1, h2, hd⟩
      · have ea : nnx a (liveF a) s k = some (a.nx s.toNat k) := by unfold nnx; rw [if_pos ⟨hg2.1, hg2.2.2⟩]
        have ex : nnx x (liveF x) (j : Int) k = some (m : Int) := by
          unfold nnx
          simp only [Int.toNat_natCast]
          rw [if_pos ⟨by omega, by rw [hm]; simpa using hlive m (by omega)⟩, hm]
        rw [ea, ex]
        exact ⟨m, rfl, .inl ⟨m, rfl, hml, hg2, hc⟩⟩
      · have ea : nnx a (liveF a) s k = none := by unfold nnx; rw [if_neg hd]
        have ex : nnx x (liveF x) (j : Int) k = none := by
          unfold nnx
          simp only [Int.toNat_natCast]
          rw [if_neg (by omega)]
        rw [ea, ex]
        trivial
    have hacc : ∀ s (j : Nat), QL a (clsF a) s j → nac a s = nac x j := fun s j hq => by
      obtain ⟨hg, hjl, _⟩ := hR s j hq
      have := hb.acc _ _ hq
      rw [nac_acB hg, nac_acB (hGX j (by omega))] at this
      exact this
    -- two states of x in one class are one
    have hinj : ∀ i j : Nat, i < x.n → j < x.n → cfun (clsF x) i = cfun (clsF x) j → i = j := fun i j hi hj he => by
      have hil : i < (fnd a (clsF a)).length := by omega
      have hjl : j < (fnd a (clsF a)).length := by omega
      have key := cls_coarse hf (R := fun s t => ∃ i j : Nat, QL a (clsF a) s i ∧ QL a (clsF a) t j ∧ cfun (clsF x) i = cfun (clsF x) j)
        (fun s t ⟨i, j, h1, h2, _⟩ => ⟨(hR s i h1).1, (hR t j h2).1⟩)
        (fun s t ⟨i, j, h1, h2, h3⟩ => by
          obtain ⟨_, hil, _⟩ := hR s i h1
          obtain ⟨_, hjl, _⟩ := hR t j h2
          rw [hacc s i h1, hacc t j h2]
          exact hCX.ac _ _ (hGX i (by omega)) (hGX j (by omega)) h3)
        (fun s t k ⟨i, j, h1, h2, h3⟩ hk => by
          obtain ⟨_, hil, _⟩ := hR s i h1
          obtain ⟨_, hjl, _⟩ := hR t j h2
          have o1 := hnx s i k h1 hk
          have o2 := hnx t j k h2 hk
          have o3 := hCX.nx _ _ k (hGX i (by omega)) (hGX j (by omega)) h3 hk
          revert o1 o2 o3
          cases nnx a (liveF a) s k <;> cases nnx x (liveF x) (i : Int) k <;> cases nnx a (liveF a) t k <;> cases nnx x (liveF x) (j : Int) k <;> intro o1 o2 o3 <;> first | exact o1.elim | exact o2.elim | exact o3.elim | trivial | skip
          obtain ⟨m1, rfl, q1⟩ := o1
          obtain ⟨m2, rfl, q2⟩ := o2
          exact ⟨m1, m2, q1, q2, o3⟩)
        (a.n + 1) (fnd a (clsF a))[i] (fnd a (clsF a))[j] ⟨i, j, .inl ⟨i, rfl, hil, hgL.g _ (List.getElem_mem _), rfl⟩, .inl ⟨j, rfl, hjl, hgL.g _ (List.getElem_mem _), rfl⟩, he⟩
      have e2 : ((fnd a (clsF a)).map (cfun (clsF a)))[i]'(by simpa using hil) = ((fnd a (clsF a)).map (cfun (clsF a)))[j]'(by simpa using hjl) := by
        simp only [List.getElem_map]
        exact key
      exact nodup_inj hgL.nd (by simpa using hil) (by simpa using hjl) e2
    have hlx : (liveF x)[x.start.toNat]?.getD false = true := by rw [hstart]; exact hlive 0 (by rw [hnX]; obtain ⟨ex, he⟩ := fnd_start a (clsF a); rw [he]; simp)
    have hsg := start_gs hfX hlx
    -- the two numberings run side by side
    have hsim : numRunC (cfun (clsF a)) (nnx a (liveF a)) (nac a) (a.n + 1) 0 [a.start] [] [] = numRunC (cfun (clsF x)) (nnx x (liveF x)) (nac x) (a.n + 1) 0 [x.start] [] [] := by
      refine Sim.run (R := fun s j => ∃ m : Nat, j = m ∧ QL a (clsF a) s m) ⟨fun s t h => ?_, fun s t k h hk => ?_, fun s t s' t' h h' => ?_⟩ _ _ _ _ _ _ (.cons ⟨0, by rw [hstart]; rfl, ?_⟩ .nil)
      · obtain ⟨m, rfl, hq⟩ := h
        exact hacc s m hq
      · obtain ⟨m, rfl, hq⟩ := h
        exact hnx s m k hq hk
      · obtain ⟨m, rfl, hq⟩ := h
        obtain ⟨m', rfl, hq'⟩ := h'
        obtain ⟨_, hml, hc⟩ := hR s m hq
        obtain ⟨_, hml', hc'⟩ := hR s' m' hq'
        rw [hc, hc']
        constructor
        · intro e
          have : m = m' := nodup_inj hgL.nd (by simpa using hml) (by simpa using hml') (by simpa using e)
          rw [this]
        · intro e
          have : m = m' := hinj m m' (by omega) (by omega) e
          subst this; rfl
      · obtain ⟨ex, he⟩ := fnd_start a (clsF a)
        exact .inl ⟨0, rfl, by rw [he]; simp, start_gs hf hl, by simp [he]⟩
    have hfuel := numRunC_fuel (ac := nac x) (hCX.good hfX) (a.n + 1) (x.n + 1) 0 [x.start] [] [] ⟨fun y hy => by simp at hy; subst hy; exact hsg, by simp⟩ (by have := fnd_le hC hf hl; omega) (by omega)
    unfold minS numAut numC
    rw [if_pos hlx, ← hfuel, ← hsim]
    conv => lhs; rw [hx]
    unfold numAut numC
    rw [if_pos hl]
  · have e : minS a = nothingAut := numAut_dead hl
    rw [e]
    refine (numAut_dead fun hlx => ?_).symm
    have hLv := ((liveF_ok nothing_fits).2 0 (by decide)).1 (show (liveF nothingAut)[0]?.getD false = true from hlx)
    have hno : ∀ s, Live nothingAut s → False := fun s h => by
      induction h with
      | acc hs ha =>
        rename_i s
        obtain rfl : s = 0 := by have : nothingAut.n = 1 := rfl; omega
        cases ha
      | step _ _ _ _ ih => exact ih
    exact hno 0 hLv
end Go.Proofs.YtmnhpbbapkcdjaaGreat

/- Walks: determinization. -/
namespace Go.Proofs.YtmnhpbbapkcdjaaGreat
open Go.RowKit

theorem wf_or (x y : Int) : wfI (orI x y) := by
  unfold wfI orI bits
  exact wf_wrap .i64 _
theorem afterI_wf (a : Pos) (s l : Int) : wfI (afterI a s l) := by
  unfold afterI
  refine upto_inv wfI (wfI64 (by omega)) (fun x k h => ?_) _
  unfold ouStep
  split
  · exact wf_or _ _
  · exact h

theorem det1_any (a : Pos) (g : Nat) (v0 v1 v2 v3 v4 : Value) (s : Int) (k : Nat) (w : World) (p : Nat → Prop) (hB : Blk w g 26 #[v0, v1, v2, v3, v4]) (h : PosV w p (.agg #[v0, v1, v2, v3, v4]) a) (hf : a.follow.length = a.n) (hn : a.n ≤ 20) :
    Calls Tryz.prog 60 #[.int .i64 s, .int .i64 k, .pointer (some ⟨g, 0, none⟩)] w fun e w' => NextPost (subNx a) s k w e w' := by
  have f0 := hB.cell 0; have f1 := hB.cell 1; have f2 := hB.cell 2; have f3 := hB.cell 3; have f4 := hB.cell 4
  simp at f0 f1 f2 f3 f4
  go_enter Tryz.func60, Tryz.ntmps60
  go_wp2_with (go_at_call 61; refine (implAfter_any a _ s k w p h hf hn).mono ?_; rintro e w1 ⟨rfl, hb1⟩)
  go_ret2
  refine ⟨afterI a s k, (afterI a s k != 0), rfl, ?_, hb1⟩
  unfold subNx
  by_cases h0 : afterI a s k = 0
  · simp [h0]
  · simp [h0]

theorem determinize_any (a : Pos) (v : Value) (most : Nat) (w : World) (p : Nat → Prop) (h : PosV w p v a) (hf : a.follow.length = a.n) (hn : a.n ≤ 20) (hmost : most ≤ 1000) :
    Calls Tryz.prog 28 #[v, .int .i64 most] w fun e w' => AutOk w w' (numbR (subNx a) (accI a) most 1) e := by
  obtain ⟨A1, c1, A2, c2, hv, _, _⟩ := h.fit hf
  subst hv
  have hP := (h.alloc (.cells #[.slice A1 a.n c1, .int .i64 a.first, .int .i64 a.last, .slice A2 a.n c2, .bool a.nullable] 26)).alloc (.cells #[.int .i64 0, .slice none 0 0, .slice none 0 0] 31)
  have hB := (Blk.new w 26 #[.slice A1 a.n c1, .int .i64 a.first, .int .i64 a.last, .slice A2 a.n c2, .bool a.nullable]).alloc (.cells #[.int .i64 0, .slice none 0 0, .slice none 0 0] 31)
  have hR : Blk ((w.alloc (.cells #[.slice A1 a.n c1, .int .i64 a.first, .int .i64 a.last, .slice A2 a.n c2, .bool a.nullable] 26)).alloc (.cells #[.int .i64 0, .slice none 0 0, .slice none 0 0] 31)) (w.heap.size + 1) 31 #[.int .i64 0, .slice none 0 0, .slice none 0 0] := by
    have := Blk.new (w.alloc (.cells #[.slice A1 a.n c1, .int .i64 a.first, .int .i64 a.last, .slice A2 a.n c2, .bool a.nullable] 26)) 31 #[.int .i64 0, .slice none 0 0, .slice none 0 0]
    rwa [size_alloc] at this
  have hW := below_alloc2 w (.cells #[.slice A1 a.n c1, .int .i64 a.first, .int .i64 a.last, .slice A2 a.n c2, .bool a.nullable] 26) (.cells #[.int .i64 0, .slice none 0 0, .slice none 0 0] 31)
  go_enter Tryz.func28, Tryz.ntmps28
  go_wp2_with fail
  refine (numbered_any 1 most 59 60 #[.agg #[.slice A1 a.n c1, .int .i64 a.first, .int .i64 a.last, .slice A2 a.n c2, .bool a.nullable]] #[] #[] #[.pointer (some ⟨w.heap.size, 0, none⟩)] (accI a) (subNx a) wfI _ hmost (fun args w => by kernel_rfl) (fun args w => by kernel_rfl) (wfI64 (by omega)) (fun x h => h)
    (fun x k t _ _ h => by unfold subNx at h; split at h; cases h; injection h with h; subst h; exact afterI_wf a x k)
    (fun x w' _ hb => implAcc_any a _ x w' p (hP.below hb))
    (fun x k w' _ _ hb => det1_any a _ _ _ _ _ _ x k w' p (hB.below hb hB.lt) (hP.below hb) hf hn)).mono ?_
  rintro e w1 ⟨v1, rfl, hA, hb1⟩
  obtain ⟨A3, n3, c3, A4, n4, c4, hv1, _, _⟩ := id hA
  have hR1 := hR.below hb1 hR.lt
  have q0 := hR1.cell 0; have q1 := hR1.cell 1; have q2 := hR1.cell 2
  simp at q0 q1 q2
  have z0 := hR1.frozen 0; have z1 := hR1.frozen 1; have z2 := hR1.frozen 2
  have hbz : Below w.heap.size w w1 := hW.trans (hb1.mono (by simp; omega))
  have hsz : w.heap.size + 1 + 1 ≤ w1.heap.size := by have := hb1.size; simp at this; omega
  have HA := Lib.hid hA
  generalize hr : numbR (subNx a) (accI a) most 1 = r at *
  have HE := Lib.hid hr; clear hr
  subst hv1
  clear hA hb1 hP hB hR hW
  go_wp2
  refine bodyPost_ret (v := .tuple #[.agg #[.int .i64 (resAut r).start, .slice A3 n3 c3, .slice A4 n4 c4], .bool r.isSome]) (by simp [results, Tryz.results28, go_sem, q0, q1, q2]) rfl ?_
  rw [HE.out]
  refine ⟨_, rfl, ?_, ((hbz.setCell (by simp) _).setCell (by simp) _).setCell (by simp) _⟩
  refine (HA.out.keep (w' := _) (by simp) (fun b hb _ => ?_)).weak (fun b hb _ => by have hb := hb; simp at hb; omega)
  have hb := hb; simp at hb
  rw [Below.heap_setCell _ _ _ _ (by simp; omega), Below.heap_setCell _ _ _ _ (by simp; omega), Below.heap_setCell _ _ _ _ (by simp; omega)]

noncomputable def detR (a : Pos) : Option (List Bool × List (List Int)) := if posOkB a = true then numbR (subNx a) (accI a) 12 1 else none

theorem implDet_any (a : Pos) (v : Value) (w : World) (p : Nat → Prop) (h : PosV w p v a) :
    Calls Tryz.prog 6 #[v] w fun e w' => AutOk w w' (detR a) e := by
  obtain ⟨A1, n1, c1, A2, n2, c2, hv, _, _⟩ := id h
  subst hv
  have hP := (h.alloc (.cells #[.slice A1 n1 c1, .int .i64 a.first, .int .i64 a.last, .slice A2 n2 c2, .bool a.nullable] 26)).alloc (.cells #[.int .i64 0, .slice none 0 0, .slice none 0 0] 31)
  have hB := (Blk.new w 26 #[.slice A1 n1 c1, .int .i64 a.first, .int .i64 a.last, .slice A2 n2 c2, .bool a.nullable]).alloc (.cells #[.int .i64 0, .slice none 0 0, .slice none 0 0] 31)
  have hR : Blk ((w.alloc (.cells #[.slice A1 n1 c1, .int .i64 a.first, .int .i64 a.last, .slice A2 n2 c2, .bool a.nullable] 26)).alloc (.cells #[.int .i64 0, .slice none 0 0, .slice none 0 0] 31)) (w.heap.size + 1) 31 #[.int .i64 0, .slice none 0 0, .slice none 0 0] := by
    have := Blk.new (w.alloc (.cells #[.slice A1 n1 c1, .int .i64 a.first, .int .i64 a.last, .slice A2 n2 c2, .bool a.nullable] 26)) 31 #[.int .i64 0, .slice none 0 0, .slice none 0 0]
    rwa [size_alloc] at this
  have hW := below_alloc2 w (.cells #[.slice A1 n1 c1, .int .i64 a.first, .int .i64 a.last, .slice A2 n2 c2, .bool a.nullable] 26) (.cells #[.int .i64 0, .slice none 0 0, .slice none 0 0] 31)
  go_enter Tryz.func6, Tryz.ntmps6
  go_wp2_with fail
  refine (implPosOk_any a _ _ p hP).mono ?_; rintro e w1 ⟨rfl, hb1⟩
  have hR1 := hR.below hb1 hR.lt
  have q0 := hR1.cell 0; have q1 := hR1.cell 1; have q2 := hR1.cell 2
  have hB1 := hB.below hb1 hB.lt
  have f0 := hB1.cell 0; have f1 := hB1.cell 1; have f2 := hB1.cell 2; have f3 := hB1.cell 3; have f4 := hB1.cell 4
  simp at q0 q1 q2 f0 f1 f2 f3 f4
  have z0 := hR1.frozen 0; have z1 := hR1.frozen 1; have z2 := hR1.frozen 2
  have hbz : Below w.heap.size w w1 := hW.trans (hb1.mono (by simp; omega))
  have hsz : w.heap.size + 1 + 1 ≤ w1.heap.size := by have := hb1.size; simp at this; omega
  have hP1 := hP.below hb1
  cases hV : posOkB a with
  | false =>
    have HE : Hid (detR a = none) := Lib.hid (by unfold detR; rw [if_neg (by rw [hV]; simp)])
    go_wp2
    refine bodyPost_ret (v := .tuple #[.agg #[.int .i64 0, .slice none 0 0, .slice none 0 0], .bool false]) (by simp [results, Tryz.results6, go_sem, q0, q1, q2]) rfl ?_
    refine ⟨_, by rw [HE.out]; rfl, by rw [HE.out]; exact AutV.none_ _ _, ?_⟩
    exact ((hbz.setCell (by simp) _).setCell (by simp) _).setCell (by simp) _
  | true =>
    have hok := posOk_iff.1 hV
    have HE : Hid (detR a = numbR (subNx a) (accI a) 12 1) := Lib.hid (by unfold detR; rw [if_pos hV])
    go_wp2_with fail
    refine (determinize_any a _ 12 w1 p hP1 hok.2.1 hok.1 (by omega)).mono ?_
    rintro e w2 ⟨v1, rfl, hA, hb2⟩
    obtain ⟨A3, n3, c3, A4, n4, c4, hv1, _, _⟩ := id hA
    have hR2 := hR1.below hb2 hR1.lt
    have r0 := hR2.cell 0; have r1 := hR2.cell 1; have r2 := hR2.cell 2
    simp at r0 r1 r2
    have y0 := hR2.frozen 0; have y1 := hR2.frozen 1; have y2 := hR2.frozen 2
    have hbz2 : Below w.heap.size w w2 := hbz.trans (hb2.mono (by omega))
    have hsz2 : w.heap.size + 1 + 1 ≤ w2.heap.size := Nat.le_trans hsz hb2.size
    have HA := Lib.hid hA
    rw [← HE.out] at HA hv1
    subst hv1
    have Hss : Hid ((numbR (subNx a) (accI a) 12 1).isSome = (detR a).isSome) := Lib.hid (by rw [HE.out])
    rw [Hss.out]
    clear hA hb1 hb2 hP hP1 hB hB1 hR hR1 hW q0 q1 q2 z0 z1 z2 hok f0 f1 f2 f3 f4
    go_wp2
    refine bodyPost_ret (v := .tuple #[.agg #[.int .i64 (resAut (detR a)).start, .slice A3 n3 c3, .slice A4 n4 c4], .bool (detR a).isSome]) (by simp [results, Tryz.results6, go_sem, r0, r1, r2]) rfl ?_
    refine ⟨_, rfl, ?_, ((hbz2.setCell (by simp) _).setCell (by simp) _).setCell (by simp) _⟩
    refine (HA.out.keep (w' := _) (by simp) (fun b hb _ => ?_)).weak (fun b hb _ => by have hb : w1.heap.size ≤ b := hb; show w.heap.size ≤ b; omega)
    have hb : w1.heap.size ≤ b := hb
    rw [Below.heap_setCell _ _ _ _ (by simp; omega), Below.heap_setCell _ _ _ _ (by simp; omega), Below.heap_setCell _ _ _ _ (by simp; omega)]
theorem specDet_any (a : Pos) (v : Value) (w : World) (p : Nat → Prop) (h : PosV w p v a) :
    Calls Tryz.prog 7 #[v] w fun e w' => AutOk w w' (detR a) e := by
  obtain ⟨A1, n1, c1, A2, n2, c2, hv, _, _⟩ := id h
  subst hv
  have hP := (h.alloc (.cells #[.slice A1 n1 c1, .int .i64 a.first, .int .i64 a.last, .slice A2 n2 c2, .bool a.nullable] 26)).alloc (.cells #[.int .i64 0, .slice none 0 0, .slice none 0 0] 31)
  have hB := (Blk.new w 26 #[.slice A1 n1 c1, .int .i64 a.first, .int .i64 a.last, .slice A2 n2 c2, .bool a.nullable]).alloc (.cells #[.int .i64 0, .slice none 0 0, .slice none 0 0] 31)
  have hR : Blk ((w.alloc (.cells #[.slice A1 n1 c1, .int .i64 a.first, .int .i64 a.last, .slice A2 n2 c2, .bool a.nullable] 26)).alloc (.cells #[.int .i64 0, .slice none 0 0, .slice none 0 0] 31)) (w.heap.size + 1) 31 #[.int .i64 0, .slice none 0 0, .slice none 0 0] := by
    have := Blk.new (w.alloc (.cells #[.slice A1 n1 c1, .int .i64 a.first, .int .i64 a.last, .slice A2 n2 c2, .bool a.nullable] 26)) 31 #[.int .i64 0, .slice none 0 0, .slice none 0 0]
    rwa [size_alloc] at this
  have hW := below_alloc2 w (.cells #[.slice A1 n1 c1, .int .i64 a.first, .int .i64 a.last, .slice A2 n2 c2, .bool a.nullable] 26) (.cells #[.int .i64 0, .slice none 0 0, .slice none 0 0] 31)
  go_enter Tryz.func7, Tryz.ntmps7
  go_wp2_with fail
  refine (specPosOk_any a _ _ p hP).mono ?_; rintro e w1 ⟨rfl, hb1⟩
  have hR1 := hR.below hb1 hR.lt
  have q0 := hR1.cell 0; have q1 := hR1.cell 1; have q2 := hR1.cell 2
  have hB1 := hB.below hb1 hB.lt
  have f0 := hB1.cell 0; have f1 := hB1.cell 1; have f2 := hB1.cell 2; have f3 := hB1.cell 3; have f4 := hB1.cell 4
  simp at q0 q1 q2 f0 f1 f2 f3 f4
  have z0 := hR1.frozen 0; have z1 := hR1.frozen 1; have z2 := hR1.frozen 2
  have hbz : Below w.heap.size w w1 := hW.trans (hb1.mono (by simp; omega))
  have hsz : w.heap.size + 1 + 1 ≤ w1.heap.size := by have := hb1.size; simp at this; omega
  have hP1 := hP.below hb1
  cases hV : posOkB a with
  | false =>
    have HE : Hid (detR a = none) := Lib.hid (by unfold detR; rw [if_neg (by rw [hV]; simp)])
    go_wp2
    refine bodyPost_ret (v := .tuple #[.agg #[.int .i64 0, .slice none 0 0, .slice none 0 0], .bool false]) (by simp [results, Tryz.results7, go_sem, q0, q1, q2]) rfl ?_
    refine ⟨_, by rw [HE.out]; rfl, by rw [HE.out]; exact AutV.none_ _ _, ?_⟩
    exact ((hbz.setCell (by simp) _).setCell (by simp) _).setCell (by simp) _
  | true =>
    have hok := posOk_iff.1 hV
    have HE : Hid (detR a = numbR (subNx a) (accI a) 12 1) := Lib.hid (by unfold detR; rw [if_pos hV])
    go_wp2_with fail
    refine (l11Subsets_any a _ 12 w1 p hP1 hok.2.1 hok.1 (by omega)).mono ?_
    rintro e w2 ⟨v1, rfl, hA, hb2⟩
    obtain ⟨A3, n3, c3, A4, n4, c4, hv1, _, _⟩ := id hA
    have hR2 := hR1.below hb2 hR1.lt
    have hR3 := hR2.alloc (.cells #[.int .i64 (resAut (numbR (subNx a) (accI a) 12 1)).start, .slice A3 n3 c3, .slice A4 n4 c4] 31)
    rw [← HE.out] at hR3
    have r0 := hR3.cell 0; have r1 := hR3.cell 1; have r2 := hR3.cell 2
    simp at r0 r1 r2
    have y0 := hR3.frozen 0; have y1 := hR3.frozen 1; have y2 := hR3.frozen 2
    have hbz2 : Below w.heap.size w w2 := hbz.trans (hb2.mono (by omega))
    have hsz2 : w.heap.size + 1 + 1 ≤ w2.heap.size := Nat.le_trans hsz hb2.size
    have HA := Lib.hid hA
    rw [← HE.out] at HA hv1
    subst hv1
    have Hss : Hid ((numbR (subNx a) (accI a) 12 1).isSome = (detR a).isSome) := Lib.hid (by rw [HE.out])
    rw [Hss.out]
    clear hA hb1 hb2 hP hP1 hB hB1 hR hR1 hW q0 q1 q2 z0 z1 z2 hok f0 f1 f2 f3 f4
    go_wp2
    refine bodyPost_ret (v := .tuple #[.agg #[.int .i64 (resAut (detR a)).start, .slice A3 n3 c3, .slice A4 n4 c4], .bool (detR a).isSome]) (by simp [results, Tryz.results7, go_sem, r0, r1, r2]) rfl ?_
    refine ⟨_, rfl, ?_, (((hbz2.alloc (by omega) _).setCell (by simp) _).setCell (by simp) _).setCell (by simp) _⟩
    refine (HA.out.keep (w' := _) (by simp) (fun b hb hlt => ?_)).weak (fun b hb _ => by have hb : w1.heap.size ≤ b := hb; show w.heap.size ≤ b; omega)
    have hb : w1.heap.size ≤ b := hb
    rw [Below.heap_setCell _ _ _ _ (by simp; omega), Below.heap_setCell _ _ _ _ (by simp; omega), Below.heap_setCell _ _ _ _ (by simp; omega)]
    exact Below.heap_alloc _ _ _ (by assumption)
end Go.Proofs.YtmnhpbbapkcdjaaGreat

/- Plain law: the subset automaton accepts what the positions match. No program in sight. -/
namespace Go.Proofs.YtmnhpbbapkcdjaaGreat

/-- WHAT A BOUNDED NUMBERING GIVES, where it gives one. -/
theorem numRun_at {nx : Int → Nat → Option Int} {ac : Int → Bool} {most : Nat} : ∀ (f i : Nat) (ls : List Int) (acc : List Bool) (nxs : List (List Int)) (r : List Bool × List (List Int)), numRun nx ac most f i ls acc nxs = some r → (ls.Nodup) → i ≤ ls.length → ls.length ≤ most →
    r = (acc ++ ((numL id nx f i ls).drop i).map ac, nxs ++ ((numL id nx f i ls).drop i).map (numRow id nx (numL id nx f i ls))) ∧
      (∀ s ∈ (numL id nx f i ls).drop i, Has id nx (numL id nx f i ls) s 9) ∧ (numL id nx f i ls).length ≤ most
  | 0, i, ls, acc, nxs, r, h, _, _, _ => by simp [numRun] at h
  | f + 1, i, ls, acc, nxs, r, h, hnd, h2, hm => by
    unfold numRun at h
    by_cases hi : i < ls.length
    · rw [if_pos hi] at h
      rw [rowC_id] at h
      split at h
      · cases h
      · rename_i hle
        obtain ⟨ex, hx⟩ := rowC_pre (cl := id) (nx := nx) (s := ls[i]?.getD 0) (ls := ls)
        have hnd2 : (rowC id nx (ls[i]?.getD 0) ls).1.Nodup := by
          have hT : ∀ (s : Int) (st : List Int × List Int) (k : Nat), st.1.Nodup → (rowStepC id nx s st k).1.Nodup := fun s st k hst => by
            unfold rowStepC
            cases nx s k with
            | none => exact hst
            | some t =>
              simp only
              split
              · rename_i hf
                refine List.nodup_append.2 ⟨hst, by simp, fun x hx y hy he => ?_⟩
                simp at hy
                subst hy he
                have := (findI_mem (id x) (st.1.map id) 0).2 (by simpa using hx)
                omega
              · exact hst
          have hU : ∀ k, (upto (rowStepC id nx (ls[i]?.getD 0)) (ls, []) k).1.Nodup := fun k => by
            induction k with
            | zero => exact hnd
            | succ k ih => exact hT _ _ _ ih
          exact hU 9
        have ih := numRun_at f (i + 1) (rowC id nx (ls[i]?.getD 0) ls).1 _ _ r h hnd2 (by rw [hx]; simp; omega) (by omega)
        have eL : numL id nx (f + 1) i ls = numL id nx f (i + 1) (rowC id nx (ls[i]?.getD 0) ls).1 := by rw [numL, if_pos hi]
        rw [eL]
        obtain ⟨ex2, hx2⟩ := numL_pre (cl := id) (nx := nx) f (i + 1) (rowC id nx (ls[i]?.getD 0) ls).1
        have hrow := rowC_at (cl := id) (nx := nx) (s := ls[i]?.getD 0) (ls := ls) 9
        have hlen : i < (numL id nx f (i + 1) (rowC id nx (ls[i]?.getD 0) ls).1).length := by rw [hx2, hx]; simp; omega
        have hget : (numL id nx f (i + 1) (rowC id nx (ls[i]?.getD 0) ls).1)[i] = ls[i]?.getD 0 := by
          have h1 : (numL id nx f (i + 1) (rowC id nx (ls[i]?.getD 0) ls).1)[i]? = ls[i]? := by
            rw [hx2, hx, List.append_assoc, List.getElem?_append_left hi]
          have h2 := List.getElem?_eq_getElem hlen
          rw [h1] at h2
          exact (congrArg (·.getD 0) h2).symm
        have hR : (rowC id nx (ls[i]?.getD 0) ls).2 = numRow id nx (numL id nx f (i + 1) (rowC id nx (ls[i]?.getD 0) ls).1) (ls[i]?.getD 0) := by
          rw [hx2]
          unfold numRow
          rw [show (rowC id nx (ls[i]?.getD 0) ls).2 = _ from hrow.2]
          exact List.map_congr_left fun j hj => (numAt_app hrow.1 (List.mem_range.1 hj)).symm
        have hD : (numL id nx f (i + 1) (rowC id nx (ls[i]?.getD 0) ls).1).drop i = (ls[i]?.getD 0) :: (numL id nx f (i + 1) (rowC id nx (ls[i]?.getD 0) ls).1).drop (i + 1) := by
          rw [List.drop_eq_getElem_cons hlen, hget]
        refine ⟨?_, fun s hs' => ?_, ih.2.2⟩
        · rw [ih.1, hD, hR]
          simp
        · rw [hD] at hs'
          rcases List.mem_cons.1 hs' with rfl | hs'
          · rw [hx2]; exact Has.app hrow.1
          · exact ih.2.1 s hs'
    · rw [if_neg hi] at h
      have eL : numL id nx (f + 1) i ls = ls := by rw [numL, if_neg hi]
      rw [eL, List.drop_eq_nil_of_le (by omega)]
      simp at h
      exact ⟨by rw [← h]; simp, fun s hs => by simp at hs, hm⟩

theorem bt_zero (i : Nat) : bt 0 i = false := by
  unfold bt
  rw [Int.zero_ediv]
  decide
theorem after_zero (p : Pos) (k : Int) : afterI p 0 k = 0 := by
  have h0 : afM0 p 0 = 0 := by unfold afM0; rw [if_neg (by decide)]
  have hm : afM p 0 = 0 := by
    unfold afM
    rw [h0]
    have : ∀ n, upto (afStep p 0) 0 n = 0 := fun n => by
      induction n with
      | zero => rfl
      | succ n ih =>
        show afStep p 0 (upto (afStep p 0) 0 n) n = 0
        rw [ih]
        unfold afStep
        rw [bt_zero]
        simp
    exact this _
  unfold afterI
  rw [hm]
  have : ∀ n, upto (ouStep p 0 k) 0 n = 0 := fun n => by
    induction n with
    | zero => rfl
    | succ n ih =>
      show ouStep p 0 k (upto (ouStep p 0 k) 0 n) n = 0
      rw [ih]
      unfold ouStep
      rw [bt_zero]
      simp
  exact this _
theorem acc_zero (p : Pos) : accI p 0 = false := by
  unfold accI andI
  have h1 : (bits BinOp.and IntKind.i64 0 1 == 1) = false := by decide
  have h2 : ∀ x : Int, bits BinOp.and IntKind.i64 (0 / 2) x = 0 := fun x => by
    show IntKind.wrap .i64 ↑((BitVec.ofInt 64 (0 / 2) &&& BitVec.ofInt 64 x).toNat) = 0
    have : (BitVec.ofInt 64 (0 / 2) &&& BitVec.ofInt 64 x) = 0 := by
      have e : BitVec.ofInt 64 (0 / 2) = 0 := by decide
      rw [e]; simp
    rw [this]
    decide
  rw [h1, h2]
  rfl
theorem sub_some {p : Pos} {s t : Int} {k : Nat} (h : subNx p s k = some t) : afterI p s k = t ∧ t ≠ 0 := by
  unfold subNx at h
  split at h
  · cases h
  · rename_i hn; injection h with h; exact ⟨h, fun e => hn (by rw [h, e])⟩
theorem sub_none {p : Pos} {s : Int} {k : Nat} (h : subNx p s k = none) : afterI p s k = 0 := by
  unfold subNx at h
  split at h
  · assumption
  · cases h

section
variable {p : Pos} {r : List Bool × List (List Int)}
/-- the sets that are found -/
def sets (p : Pos) : List Int := numL id (subNx p) 14 0 [1]
theorem det_at (h : numbR (subNx p) (accI p) 12 1 = some r) : r = ((sets p).map (accI p), (sets p).map (numRow id (subNx p) (sets p))) ∧ (∀ s ∈ sets p, Has id (subNx p) (sets p) s 9) ∧ (sets p).length ≤ 12 := by
  have := numRun_at 14 0 [1] [] [] r h (by simp) (by simp) (by simp)
  simpa [sets] using this
theorem sets_start (p : Pos) : ∃ ex, sets p = 1 :: ex := by
  obtain ⟨ex, h⟩ := numL_pre (cl := id) (nx := subNx p) 14 0 [1]
  exact ⟨ex, h⟩
/-- set s and state i of the subset automaton -/
def QD (p : Pos) (s i : Int) : Prop := (∃ j : Nat, i = j ∧ ∃ h : j < (sets p).length, (sets p)[j] = s) ∨ (i = -1 ∧ s = 0)
theorem det_nx (h : numbR (subNx p) (accI p) 12 1 = some r) {j k : Nat} (hj : j < (sets p).length) (hk : k < 9) : (resAut (some r)).nx j k = numAt id (subNx p) (sets p) (sets p)[j] k := by
  rw [(det_at h).1]
  have e : ((sets p).map (numRow id (subNx p) (sets p)))[j]?.getD [] = numRow id (subNx p) (sets p) (sets p)[j] := by
    rw [getD_some (by simpa using hj), List.getElem_map]
  unfold Aut.nx resAut
  simp only [e]
  unfold numRow
  rw [getD_some (by simpa using hk)]
  simp
theorem det_n (h : numbR (subNx p) (accI p) 12 1 = some r) : (resAut (some r)).n = (sets p).length := by rw [(det_at h).1]; simp [resAut, Aut.n]
theorem det_rng (h : numbR (subNx p) (accI p) 12 1 = some r) {s : Int} {k : Nat} : -1 ≤ numAt id (subNx p) (sets p) s k ∧ numAt id (subNx p) (sets p) s k < (sets p).length := by
  obtain ⟨ex, he⟩ := sets_start p
  unfold numAt
  split
  · rw [he]; simp; omega
  · have := findI_range (id ‹Int›) ((sets p).map id) 0
    simp at this
    rcases this with h1 | h1
    · have h1' : findI (id ‹Int›) ((sets p).map id) 0 = -1 := by simpa using h1
      rw [h1', he]; simp; omega
    · have e : findI (id ‹Int›) ((sets p).map id) 0 = findI ‹Int› (sets p) 0 := by simp
      rw [e]; omega
theorem det_valid (h : numbR (subNx p) (accI p) 12 1 = some r) : validB (resAut (some r)) = true := by
  have hn := det_n h
  obtain ⟨ex, he⟩ := sets_start p
  have hle := (det_at h).2.2
  refine validB_iff.2 ⟨by omega, ?_, ?_, ?_, fun s hs => ⟨?_, fun k hk => ?_⟩⟩
  · exact Int.le_refl 0
  · rw [hn, he]; show (0 : Int) < _; simp
  · rw [hn, (det_at h).1]; simp [resAut]
  · rw [hn] at hs
    rw [(det_at h).1]
    show (((sets p).map (numRow id (subNx p) (sets p)))[s]?.getD []).length = 9
    rw [getD_some (by simpa using hs), List.getElem_map]
    simp [numRow]
  · rw [hn] at hs ⊢
    rw [det_nx h hs hk]
    exact det_rng h
theorem det_step (h : numbR (subNx p) (accI p) 12 1 = some r) {s i k : Int} (hq : QD p s i) (hk : isL k = true) : QD p (afterI p s k) (mvI (resAut (some r)) i k) := by
  have hk9 := isL_iff.1 hk
  have ek : ((k.toNat : Nat) : Int) = k := by omega
  rcases hq with ⟨j, rfl, hj, rfl⟩ | ⟨rfl, rfl⟩
  · have e : mvI (resAut (some r)) (j : Int) k = numAt id (subNx p) (sets p) (sets p)[j] k.toNat := by
      unfold mvI
      rw [if_pos ⟨by omega, hk⟩]
      simp only [Int.toNat_natCast]
      exact det_nx h hj (by omega)
    rw [e]
    unfold numAt
    cases hx : subNx p (sets p)[j] k.toNat with
    | none =>
      have := sub_none hx
      rw [ek] at this
      exact .inr ⟨rfl, this⟩
    | some t =>
      have hs := sub_some hx
      rw [ek] at hs
      have hm := (det_at h).2.1 _ (List.getElem_mem hj) k.toNat t (by omega) hx
      obtain ⟨m, h1, h2, h3⟩ := findI_at hm
      simp only
      rw [h1]
      exact .inl ⟨m, rfl, by simpa using h2, by rw [hs.1]; simpa using h3⟩
  · rw [after_zero]
    exact .inr ⟨by unfold mvI; rw [if_neg (fun hh => by omega)], rfl⟩
theorem det_run (h : numbR (subNx p) (accI p) 12 1 = some r) : ∀ (ws : List Int) (s i : Int), QD p s i → (∀ k ∈ ws, isL k = true) → QD p (ws.foldl (afterI p) s) (runI (resAut (some r)) i ws)
  | [], s, i, hq, _ => hq
  | k :: ws, s, i, hq, hw => det_run h ws _ _ (det_step h hq (hw k (by simp))) (fun k hk => hw k (by simp [hk]))
/-- THE LAW. -/
theorem det_law (h : detR p = some r) {ws : List Int} (hw : isWordB ws = true) : accWB (resAut (some r)) ws = matchB p ws := by
  unfold detR at h
  split at h
  · rename_i hok
    have hl : ∀ k ∈ ws, isL k = true := by
      unfold isWordB at hw
      simp only [Bool.and_eq_true] at hw
      exact List.all_eq_true.1 hw.1
    have hq := det_run h ws 1 0 (by
      obtain ⟨ex, he⟩ := sets_start p
      exact .inl ⟨0, rfl, by rw [he]; simp, by simp [he]⟩) hl
    unfold accWB runWB matchB
    rw [if_pos (det_valid h), hok, hw]
    simp only [Bool.true_and]
    have e0 : (resAut (some r)).start = 0 := rfl
    rw [e0]
    show acB (resAut (some r)) (runI (resAut (some r)) 0 ws) = accI p (matchSet p ws)
    unfold matchSet
    generalize ws.foldl (afterI p) 1 = S at *
    generalize runI (resAut (some r)) 0 ws = i at *
    rcases hq with ⟨j, rfl, hj, rfl⟩ | ⟨rfl, rfl⟩
    · rw [(det_at h).1]
      unfold acB resAut
      simp only [Int.natCast_nonneg, decide_true, Bool.true_and, Int.toNat_natCast]
      rw [getD_some (by simpa using hj), List.getElem_map]
    · rw [acc_zero]; rfl
  · cases h
end
end Go.Proofs.YtmnhpbbapkcdjaaGreat
