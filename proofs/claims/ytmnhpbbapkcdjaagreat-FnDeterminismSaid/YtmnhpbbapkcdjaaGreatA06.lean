/- Plain law: the live states of an automaton; Classes of states, refined until nothing changes (plain); Walks: lists and automata are compared; Walks: the first index of a value, of a row; l11Live of the specification, walked. No condition. -/
import Derived.Test.YtmnhpbbapkcdjaaGreatA05
import Derived.Deep.RegionHeld3

/- Plain law: the live states of an automaton. -/
namespace Go.Proofs.YtmnhpbbapkcdjaaGreat

def lvStep (a : Aut) (s : Nat) (o : List Bool) (k : Nat) : List Bool :=
  if 0 ≤ a.nx s k ∧ o[(a.nx s k).toNat]?.getD false = true then o.set s true else o
def lvRow (a : Aut) (o : List Bool) (s : Nat) : List Bool := upto (lvStep a s) o 9
def lvAll (a : Aut) (o : List Bool) (_ : Nat) : List Bool := upto (lvRow a) o a.n
def liveF (a : Aut) : List Bool := upto (lvAll a) a.acc a.n

theorem lvStep_len (a : Aut) (s : Nat) (o : List Bool) (k : Nat) : (lvStep a s o k).length = o.length := by unfold lvStep; split <;> simp
theorem lvRow_len (a : Aut) (o : List Bool) (s : Nat) : (lvRow a o s).length = o.length :=
  upto_inv (fun x : List Bool => x.length = o.length) rfl (fun x k h => by rw [lvStep_len, h]) 9


/-- an accepting state is reached from s -/
inductive Live (a : Aut) : Nat → Prop where
  | acc {s : Nat} : s < a.n → a.acc[s]?.getD false = true → Live a s
  | step {s k : Nat} : s < a.n → k < 9 → 0 ≤ a.nx s k → Live a (a.nx s k).toNat → Live a s
def IsLive (a : Aut) (o : List Bool) : Prop := o.length = a.n ∧ ∀ s, s < a.n → (o[s]?.getD false = true ↔ Live a s)
theorem IsLive.uniq {a : Aut} {o o' : List Bool} (h : IsLive a o) (h' : IsLive a o') : o = o' := by
  apply List.ext_getElem (by rw [h.1, h'.1])
  intro i h1 h2
  have e1 := h.2 i (by rw [← h.1]; exact h1)
  have e2 := h'.2 i (by rw [← h.1]; exact h1)
  rw [List.getElem?_eq_getElem h1] at e1
  rw [List.getElem?_eq_getElem h2] at e2
  simp only [Option.getD_some] at e1 e2
  rw [Bool.eq_iff_iff, e1, e2]

def Ble (o o' : List Bool) : Prop := o.length = o'.length ∧ ∀ s : Nat, o[s]?.getD false = true → o'[s]?.getD false = true
theorem Ble.refl (o : List Bool) : Ble o o := ⟨rfl, fun _ h => h⟩
theorem Ble.trans {a b c : List Bool} (h : Ble a b) (k : Ble b c) : Ble a c := ⟨h.1.trans k.1, fun s hs => k.2 s (h.2 s hs)⟩
theorem Ble.anti {a b : List Bool} (h : Ble a b) (k : Ble b a) : a = b := by
  apply List.ext_getElem h.1
  intro i h1 h2
  have e1 := h.2 i
  have e2 := k.2 i
  rw [List.getElem?_eq_getElem h1, List.getElem?_eq_getElem h2] at e1 e2
  simp only [Option.getD_some] at e1 e2
  rw [Bool.eq_iff_iff]
  exact ⟨e1, e2⟩
theorem getD_set_b {o : List Bool} {s i : Nat} (h : o[i]?.getD false = true) : (o.set s true)[i]?.getD false = true := by
  rw [List.getElem?_set]
  split
  · split
    · rfl
    · rename_i h1 h2
      subst h1
      rw [List.getElem?_eq_none (by omega)] at h
      simp at h
  · exact h
theorem Ble.step (a : Aut) (s : Nat) (o : List Bool) (k : Nat) : Ble o (lvStep a s o k) := by
  unfold lvStep
  split
  · exact ⟨by simp, fun i h => getD_set_b h⟩
  · exact Ble.refl o
theorem upto_ble {f : List Bool → Nat → List Bool} (h : ∀ o k, Ble o (f o k)) (o : List Bool) : ∀ k, Ble o (upto f o k)
  | 0 => Ble.refl o
  | k + 1 => (upto_ble h o k).trans (h _ k)
theorem Ble.row (a : Aut) (o : List Bool) (s : Nat) : Ble o (lvRow a o s) := upto_ble (fun o k => Ble.step a s o k) o 9
theorem Ble.all (a : Aut) (o : List Bool) (k : Nat) : Ble o (lvAll a o k) := upto_ble (fun o s => Ble.row a o s) o a.n
/-- a monotone chain that comes back to its start never moved -/
theorem upto_fix {f : List Bool → Nat → List Bool} (h : ∀ o k, Ble o (f o k)) {o : List Bool} : ∀ {n : Nat}, upto f o n = o → ∀ k, k < n → f o k = o
  | 0, _, k, hk => absurd hk (by omega)
  | n + 1, he, k, hk => by
    have h1 : Ble (upto f o n) o := by have := h (upto f o n) n; rwa [show f (upto f o n) n = o from he] at this
    have h2 : upto f o n = o := h1.anti (upto_ble h o n)
    rcases Nat.lt_succ_iff_lt_or_eq.1 hk with hk | rfl
    · exact upto_fix h h2 k hk
    · have : f (upto f o k) k = o := he
      rwa [h2] at this
theorem upto_id {α : Type} {f : α → Nat → α} {o : α} (h : ∀ k, f o k = o) : ∀ n, upto f o n = o
  | 0 => rfl
  | n + 1 => by show f (upto f o n) n = o; rw [upto_id h n, h n]
theorem upto_id' {α : Type} {f : α → Nat → α} {o : α} : ∀ n, (∀ k, k < n → f o k = o) → upto f o n = o
  | 0, _ => rfl
  | n + 1, h => by show f (upto f o n) n = o; rw [upto_id' n (fun k hk => h k (by omega)), h n (by omega)]

def Closed (a : Aut) (o : List Bool) : Prop := ∀ s k, s < a.n → k < 9 → lvStep a s o k = o
theorem closed_of_fix {a : Aut} {o : List Bool} {j : Nat} (h : lvAll a o j = o) : Closed a o := fun s k hs hk =>
  upto_fix (fun o k => Ble.step a s o k) (upto_fix (fun o s => Ble.row a o s) h s hs) k hk
theorem fix_of_closed {a : Aut} {o : List Bool} (h : Closed a o) (j : Nat) : lvAll a o j = o :=
  upto_id' a.n fun s hs => upto_id' 9 fun k hk => h s k hs hk
theorem Closed.get {a : Aut} {o : List Bool} (h : Closed a o) (hl : o.length = a.n) {s k : Nat} (hs : s < a.n) (hk : k < 9) (h0 : 0 ≤ a.nx s k) (h1 : o[(a.nx s k).toNat]?.getD false = true) : o[s]?.getD false = true := by
  have := h s k hs hk
  unfold lvStep at this
  rw [if_pos ⟨h0, h1⟩] at this
  rw [← this, List.getElem?_set, if_pos rfl, if_pos (by omega)]
  rfl
def Sound (a : Aut) (o : List Bool) : Prop := ∀ s, s < a.n → o[s]?.getD false = true → Live a s
theorem Sound.step {a : Aut} {o : List Bool} (h : Sound a o) {s : Nat} (hs : s < a.n) {k : Nat} (hk : k < 9) (hlt : a.nx s k < a.n) : Sound a (lvStep a s o k) := by
  unfold lvStep
  split
  · rename_i hc
    intro i hi hh
    rw [List.getElem?_set] at hh
    split at hh
    · rename_i he
      subst he
      exact .step hs hk hc.1 (h _ (by omega) hc.2)
    · exact h i hi hh
  · exact h
theorem upto_keep {α : Type} {I : α → Prop} {f : α → Nat → α} : ∀ {n : Nat} {o : α}, I o → (∀ o k, k < n → I o → I (f o k)) → I (upto f o n)
  | 0, _, h, _ => h
  | n + 1, _, h, hs => hs _ n (by omega) (upto_keep h fun o k hk ho => hs o k (by omega) ho)
theorem Sound.all {a : Aut} (hf : a.Fits) {o : List Bool} (h : Sound a o) (j : Nat) : Sound a (lvAll a o j) :=
  upto_keep (I := Sound a) h fun o s hs ho => upto_keep (I := Sound a) ho fun o k hk ho => ho.step hs hk ((hf.2.2.2 s hs).2 k hk).2
theorem Sound.acc (a : Aut) : Sound a a.acc := fun _ hs h => .acc hs h
theorem isLive_of {a : Aut} {o : List Bool} (h1 : Ble a.acc o) (h2 : Closed a o) (h3 : Sound a o) : IsLive a o := by
  have hl : o.length = a.n := h1.1.symm
  refine ⟨hl, fun s hs => ⟨h3 s hs, fun hv => ?_⟩⟩
  induction hv with
  | acc hs h => exact h1.2 _ h
  | @step s k hs hk h0 hv ih =>
    have hlt : (a.nx s k).toNat < a.n := by cases hv <;> assumption
    exact h2.get hl hs hk h0 (ih hlt)

theorem count_le_len (o : List Bool) : o.count true ≤ o.length := List.count_le_length
theorem count_ble : ∀ {o o' : List Bool}, Ble o o' → o.count true ≤ o'.count true
  | [], [], _ => Nat.le_refl _
  | [], _ :: _, h => by have := h.1; simp at this
  | _ :: _, [], h => by have := h.1; simp at this
  | x :: o, y :: o', h => by
    have ht : Ble o o' := ⟨by have := h.1; simpa using this, fun s hs => by have := h.2 (s + 1); simpa using this hs⟩
    have h0 := h.2 0
    have := count_ble ht
    cases x <;> cases y <;> simp [List.count_cons] at h0 ⊢ <;> omega
theorem ble_count_eq : ∀ {o o' : List Bool}, Ble o o' → o'.count true ≤ o.count true → o = o'
  | [], [], _, _ => rfl
  | [], _ :: _, h, _ => by have := h.1; simp at this
  | _ :: _, [], h, _ => by have := h.1; simp at this
  | x :: o, y :: o', h, hc => by
    have ht : Ble o o' := ⟨by have := h.1; simpa using this, fun s hs => by have := h.2 (s + 1); simpa using this hs⟩
    have h0 := h.2 0
    have h1 := count_ble ht
    cases x <;> cases y <;> simp [List.count_cons] at h0 hc ⊢ <;> first | omega | exact ble_count_eq ht (by omega)

theorem liveF_ok {a : Aut} (hf : a.Fits) : IsLive a (liveF a) := by
  have key : ∀ m, Ble a.acc (upto (lvAll a) a.acc m) ∧ Sound a (upto (lvAll a) a.acc m) ∧ (Closed a (upto (lvAll a) a.acc m) ∨ m ≤ (upto (lvAll a) a.acc m).count true) := by
    intro m
    induction m with
    | zero => exact ⟨Ble.refl _, Sound.acc a, .inr (Nat.zero_le _)⟩
    | succ m ih =>
      obtain ⟨h1, h2, h3⟩ := ih
      refine ⟨h1.trans (Ble.all a _ m), h2.all hf m, ?_⟩
      show Closed a (lvAll a (upto (lvAll a) a.acc m) m) ∨ _
      rcases h3 with h3 | h3
      · left; rw [fix_of_closed h3]; exact h3
      · by_cases hc : (lvAll a (upto (lvAll a) a.acc m) m).count true ≤ (upto (lvAll a) a.acc m).count true
        · left
          have he := ble_count_eq (Ble.all a _ m) hc
          rw [← he]
          exact closed_of_fix he.symm
        · right
          show m + 1 ≤ (lvAll a (upto (lvAll a) a.acc m) m).count true
          omega
  obtain ⟨h1, h2, h3⟩ := key a.n
  refine isLive_of h1 ?_ h2
  rcases h3 with h3 | h3
  · exact h3
  · have hl : (upto (lvAll a) a.acc a.n).length = a.n := h1.1.symm
    have hl2 : (liveF a).length = a.n := hl
    intro s k hs hk
    have hall : ∀ i, i < a.n → (upto (lvAll a) a.acc a.n)[i]?.getD false = true := by
      have : (upto (lvAll a) a.acc a.n).count true = (upto (lvAll a) a.acc a.n).length := by have := count_le_len (upto (lvAll a) a.acc a.n); omega
      rw [List.count_eq_length] at this
      intro i hi
      rw [List.getElem?_eq_getElem (by omega)]
      exact (this _ (List.getElem_mem _)).symm
    exact (Ble.step a s _ k).anti ⟨by unfold lvStep; split <;> simp, fun i hi => by
      by_cases hin : i < a.n
      · exact hall i hin
      · rw [List.getElem?_eq_none (by rw [lvStep_len]; omega)] at hi; simp at hi⟩ |>.symm
/-- what impl's loop comes to: a pass that changes nothing. -/
theorem live_of_fix {a : Aut} (hf : a.Fits) {m : Nat} (h : lvAll a (upto (lvAll a) a.acc m) m = upto (lvAll a) a.acc m) : upto (lvAll a) a.acc m = liveF a := by
  refine (isLive_of ?_ (closed_of_fix h) ?_).uniq (liveF_ok hf)
  · exact upto_ble (fun o k => Ble.all a o k) _ m
  · exact upto_keep (I := Sound a) (Sound.acc a) fun o k _ ho => ho.all hf k
end Go.Proofs.YtmnhpbbapkcdjaaGreat

/- Classes of states, refined until nothing changes (plain). -/
namespace Go.Proofs.YtmnhpbbapkcdjaaGreat

/-- first index of x from k on, or -1 -/
def findG {α : Type} [DecidableEq α] (x : α) : List α → Nat → Int
  | [], _ => -1
  | y :: ys, k => if y = x then k else findG x ys (k + 1)
section
variable {α : Type} [DecidableEq α]
theorem findG_step (x d : α) (xs : List α) (k : Nat) (hk : k < xs.length) : findG x (xs.drop k) k = if xs[k]?.getD d = x then (k : Int) else findG x (xs.drop (k+1)) (k+1) := by
  rw [List.drop_eq_getElem_cons hk, List.getElem?_eq_getElem hk]; rfl
theorem findG_end (x : α) (xs : List α) (k : Nat) (hk : xs.length ≤ k) : findG x (xs.drop k) k = -1 := by rw [List.drop_eq_nil_of_le hk]; rfl
theorem findG_range (x : α) : ∀ (xs : List α) (k : Nat), findG x xs k = -1 ∨ (k : Int) ≤ findG x xs k ∧ findG x xs k < k + xs.length
  | [], k => .inl rfl
  | y :: ys, k => by
    unfold findG
    split
    · right; simp; omega
    · rcases findG_range x ys (k + 1) with h | h
      · exact .inl h
      · right; simp at h ⊢; omega
theorem findG_mem (x : α) : ∀ (xs : List α) (k : Nat), 0 ≤ findG x xs k ↔ x ∈ xs
  | [], k => by simp [findG]
  | y :: ys, k => by
    unfold findG
    by_cases h : y = x
    · simp [h]
    · rw [if_neg h, findG_mem x ys (k + 1)]
      simp [Ne.symm h]
theorem findG_get (x : α) : ∀ (xs : List α) (k : Nat), 0 ≤ findG x xs k → xs[(findG x xs k).toNat - k]? = some x
  | [], k, h => by simp [findG] at h
  | y :: ys, k, h => by
    unfold findG at h ⊢
    by_cases hy : y = x
    · subst hy; simp
    · rw [if_neg hy] at h ⊢
      have := findG_get x ys (k + 1) h
      rcases findG_range x ys (k + 1) with h1 | h1
      · omega
      · rw [show (findG x ys (k + 1)).toNat - k = ((findG x ys (k + 1)).toNat - (k + 1)) + 1 by omega]
        simpa using this
theorem findG_get0 (x : α) (xs : List α) (h : 0 ≤ findG x xs 0) : xs[(findG x xs 0).toNat]? = some x := by
  have := findG_get x xs 0 h; simpa using this
end

/-- what a state's key holds for one letter -/
def keyV (a : Aut) (cl : List Int) (s k : Nat) : Int := if a.nx s k < 0 then -1 else cl[(a.nx s k).toNat]?.getD 0
def keyTo (a : Aut) (cl : List Int) (s k : Nat) : List Int := (cl[s]?.getD 0) :: (List.range k).map (keyV a cl s)
def keyC (a : Aut) (cl : List Int) (s : Nat) : List Int := keyTo a cl s 9
theorem keyTo_snoc (a : Aut) (cl : List Int) (s k : Nat) : keyTo a cl s (k + 1) = keyTo a cl s k ++ [keyV a cl s k] := by simp [keyTo, List.range_succ]
theorem keyTo_len (a : Aut) (cl : List Int) (s k : Nat) : (keyTo a cl s k).length = k + 1 := by simp [keyTo]
theorem keyV_neg {a : Aut} {cl : List Int} {s k : Nat} (h : a.nx s k < 0) : keyV a cl s k = -1 := by unfold keyV; rw [if_pos h]
theorem keyV_pos {a : Aut} {cl : List Int} {s k : Nat} (h : ¬ a.nx s k < 0) : keyV a cl s k = cl[(a.nx s k).toNat]?.getD 0 := by unfold keyV; rw [if_neg h]

def refStep (a : Aut) (cl : List Int) (st : List (List Int) × List Int) (s : Nat) : List (List Int) × List Int :=
  if cl[s]?.getD 0 < 0 then (st.1, st.2 ++ [-1])
  else if findG (keyC a cl s) st.1 0 < 0 then (st.1 ++ [keyC a cl s], st.2 ++ [(st.1.length : Int)])
  else (st.1, st.2 ++ [findG (keyC a cl s) st.1 0])
def refTo (a : Aut) (cl : List Int) (n : Nat) : List (List Int) × List Int := upto (refStep a cl) ([], []) n
def refR (a : Aut) (cl : List Int) : List (List Int) × List Int := refTo a cl a.n
section
variable {a : Aut} {cl : List Int} {st : List (List Int) × List Int} {s : Nat}
theorem refStep_neg (h : cl[s]?.getD 0 < 0) : refStep a cl st s = (st.1, st.2 ++ [-1]) := by unfold refStep; rw [if_pos h]
theorem refStep_new (h : ¬ cl[s]?.getD 0 < 0) (hf : findG (keyC a cl s) st.1 0 < 0) : refStep a cl st s = (st.1 ++ [keyC a cl s], st.2 ++ [(st.1.length : Int)]) := by unfold refStep; rw [if_neg h, if_pos hf]
theorem refStep_old (h : ¬ cl[s]?.getD 0 < 0) (hf : ¬ findG (keyC a cl s) st.1 0 < 0) : refStep a cl st s = (st.1, st.2 ++ [findG (keyC a cl s) st.1 0]) := by unfold refStep; rw [if_neg h, if_neg hf]
theorem refTo_succ (n : Nat) : refTo a cl (n + 1) = refStep a cl (refTo a cl n) n := rfl
theorem refTo_len : ∀ n, (refTo a cl n).2.length = n ∧ (refTo a cl n).1.length ≤ n
  | 0 => by simp [refTo, upto]
  | n + 1 => by
    have h := refTo_len n
    rw [refTo_succ]
    unfold refStep
    split
    · simp; omega
    · split
      · simp; omega
      · simp; omega
theorem refTo_nodup : ∀ n, (refTo a cl n).1.Nodup
  | 0 => by simp [refTo, upto]
  | n + 1 => by
    have h := refTo_nodup n
    rw [refTo_succ]
    unfold refStep
    split
    · exact h
    · split
      · next hf =>
        refine List.nodup_append.2 ⟨h, by simp, fun x hx y hy he => ?_⟩
        simp at hy
        subst hy he
        have := (findG_mem (keyC a cl n) (refTo a cl n).1 0).2 hx
        omega
      · exact h
end

noncomputable def initV (a : Aut) (s : Nat) : Int := if (liveF a)[s]?.getD false = true then (if a.acc[s]?.getD false = true then 1 else 0) else -1
noncomputable def initTo (a : Aut) (n : Nat) : List Int := (List.range n).map (initV a)
noncomputable def initC (a : Aut) : List Int := initTo a a.n
theorem initTo_snoc (a : Aut) (n : Nat) : initTo a (n + 1) = initTo a n ++ [initV a n] := by simp [initTo, List.range_succ]
theorem initTo_len (a : Aut) (n : Nat) : (initTo a n).length = n := by simp [initTo]
noncomputable def clsN (a : Aut) (m : Nat) : List Int := upto (fun cl _ => (refR a cl).2) (initC a) m
noncomputable def clsF (a : Aut) : List Int := clsN a (a.n + 1)
theorem clsN_succ (a : Aut) (m : Nat) : clsN a (m + 1) = (refR a (clsN a m)).2 := rfl
theorem clsN_len (a : Aut) : ∀ m, (clsN a m).length = a.n
  | 0 => initTo_len a a.n
  | m + 1 => by rw [clsN_succ]; exact (refTo_len a.n).1
theorem clsN_fix {a : Aut} {m : Nat} (h : clsN a (m + 1) = clsN a m) : ∀ j, clsN a (m + j) = clsN a m
  | 0 => rfl
  | j + 1 => by rw [← Nat.add_assoc, clsN_succ, clsN_fix h j, ← clsN_succ, h]
theorem clsF_of {a : Aut} {m : Nat} (hm : m ≤ a.n + 1) (h : clsN a (m + 1) = clsN a m) : clsF a = clsN a m := by
  have := clsN_fix h (a.n + 1 - m)
  rwa [Nat.add_sub_cancel' hm] at this
/-- the last index, as a loop without a break finds it -/
def lastTo (x : List Int) (K : List (List Int)) (j : Nat) : Int := upto (fun (at_ : Int) i => if K[i]?.getD [] = x then (i : Int) else at_) (-1) j
theorem lastTo_succ (x : List Int) (K : List (List Int)) (j : Nat) : lastTo x K (j + 1) = if K[j]?.getD [] = x then (j : Int) else lastTo x K j := rfl
theorem lastTo_none {x : List Int} {K : List (List Int)} : ∀ j, j ≤ K.length → x ∉ K → lastTo x K j = -1
  | 0, _, _ => rfl
  | j + 1, hj, h => by
    rw [lastTo_succ, if_neg, lastTo_none j (by omega) h]
    intro he
    rw [List.getElem?_eq_getElem (by omega)] at he
    exact h (he ▸ List.getElem_mem _)
theorem nodup_inj {α : Type} {l : List α} (h : l.Nodup) {i j : Nat} (hi : i < l.length) (hj : j < l.length) (he : l[i] = l[j]) : i = j := by
  have hp := List.pairwise_iff_getElem.1 h
  rcases Nat.lt_trichotomy i j with h1 | h1 | h1
  · exact absurd he (hp i j hi hj h1)
  · exact h1
  · exact absurd he.symm (hp j i hj hi h1)
theorem lastTo_some {x : List Int} {K : List (List Int)} {i : Nat} (hn : K.Nodup) (hi : K[i]? = some x) : ∀ j, j ≤ K.length → lastTo x K j = if i < j then (i : Int) else -1
  | 0, _ => by simp [lastTo, upto]
  | j + 1, hj => by
    have hil := (List.getElem?_eq_some_iff.1 hi).1
    have hix := (List.getElem?_eq_some_iff.1 hi).2
    rw [lastTo_succ, List.getElem?_eq_getElem (by omega)]
    by_cases he : K[j] = x
    · have : j = i := nodup_inj hn (by omega) hil (by rw [he, hix])
      subst this
      simp [he]
    · have hij : j ≠ i := fun e => he (by subst e; exact hix)
      rw [lastTo_some hn hi j (by omega)]
      simp only [Option.getD_some, if_neg he]
      by_cases h1 : i < j
      · rw [if_pos h1, if_pos (by omega)]
      · rw [if_neg h1, if_neg (by omega)]
theorem lastTo_eq {x : List Int} {K : List (List Int)} (hn : K.Nodup) : lastTo x K K.length = findG x K 0 := by
  by_cases h : x ∈ K
  · have h0 := (findG_mem x K 0).2 h
    have h1 := findG_get0 x K h0
    have h2 := (List.getElem?_eq_some_iff.1 h1).1
    rw [lastTo_some hn h1 _ (Nat.le_refl _), if_pos h2]
    omega
  · rw [lastTo_none _ (Nat.le_refl _) h]
    have := mt (findG_mem x K 0).1 h
    rcases findG_range x K 0 with h2 | h2
    · exact h2.symm
    · omega
end Go.Proofs.YtmnhpbbapkcdjaaGreat

/- Walks: lists and automata are compared. -/
namespace Go.Proofs.YtmnhpbbapkcdjaaGreat
open Go.RowKit

/-- l2Cmp's answer -/
def cmpI : List Int → List Int → Int
  | [], [] => 0
  | [], _ :: _ => -1
  | _ :: _, [] => 1
  | x :: xs, y :: ys => if x < y then -1 else if y < x then 1 else cmpI xs ys
theorem cmpI_zero : ∀ (xs ys : List Int), cmpI xs ys = 0 ↔ xs = ys
  | [], [] => by simp [cmpI]
  | [], y :: ys => by simp [cmpI]
  | x :: xs, [] => by simp [cmpI]
  | x :: xs, y :: ys => by
    unfold cmpI
    by_cases h1 : x < y
    · simp [h1]; omega
    · by_cases h2 : y < x
      · simp [h1, h2]; omega
      · have : x = y := by omega
        subst this
        simp [cmpI_zero xs ys]
theorem cmpI_step {xs ys : List Int} {k : Nat} (h1 : k < xs.length) (h2 : k < ys.length) :
    cmpI (xs.drop k) (ys.drop k) = if xs[k]?.getD 0 < ys[k]?.getD 0 then -1 else if ys[k]?.getD 0 < xs[k]?.getD 0 then 1 else cmpI (xs.drop (k + 1)) (ys.drop (k + 1)) := by
  conv => lhs; rw [List.drop_eq_getElem_cons h1, List.drop_eq_getElem_cons h2]
  rw [List.getElem?_eq_getElem h1, List.getElem?_eq_getElem h2]
  rfl
theorem cmpI_end {xs ys : List Int} {k n m : Nat} (hn : xs.length = n) (hm : ys.length = m) (h : k = n ∨ k = m) (h1 : k ≤ n) (h2 : k ≤ m) :
    cmpI (xs.drop k) (ys.drop k) = if n < m then -1 else if m < n then 1 else 0 := by
  subst hn hm
  by_cases ha : k < xs.length
  · have : ys.length ≤ k := by omega
    rw [List.drop_eq_nil_of_le this, List.drop_eq_getElem_cons ha, if_neg (by omega), if_pos (by omega)]; rfl
  · have e1 : xs.drop k = [] := List.drop_eq_nil_of_le (by omega)
    rw [e1]
    by_cases hb : k < ys.length
    · rw [List.drop_eq_getElem_cons hb, if_pos (by omega)]; rfl
    · have e2 : ys.drop k = [] := List.drop_eq_nil_of_le (by omega)
      rw [e2, if_neg (by omega), if_neg (by omega)]; rfl
set_option maxRecDepth 100000 in
theorem l2Cmp_any (A B : Option Addr) (n c m d : Nat) (xs ys : List Int) (w : World) (p q : Nat → Prop) (hx : Sl w p 1 A n (ints xs)) (hy : Sl w q 1 B m (ints ys)) :
    Calls Tryz.prog 31 #[.slice A n c, .slice B m d] w fun e w' => e = .returned (.int .i64 (cmpI xs ys)) ∧ Drew w w' := by
  have hm1 : n ≤ 9223372036854775807 := by have := hx.2.1; unfold maxLen at this; omega
  have hm2 : m ≤ 9223372036854775807 := by have := hy.2.1; unfold maxLen at this; omega
  have Hx := Lib.hid hx.len1
  have Hy := Lib.hid hy.len1
  go_enter Tryz.func31, Tryz.ntmps31
  go_wp2_with fail
  go_loopw [5] (fun i wr => ∃ (k d : Nat), k ≤ n ∧ k ≤ m ∧ i = .int .i64 k ∧ cmpI xs ys = cmpI (xs.drop k) (ys.drop k) ∧ wr = w.drewN d) (fun i _ => n - (intOf i).toNat)
  case atStart => exact ⟨0, 0, Nat.zero_le _, Nat.zero_le _, rfl, rfl, rfl⟩
  case round =>
    obtain ⟨k, d, hk, hkm, rfl, hr, rfl⟩ := hrel
    have Hr := Lib.hid hr; clear hr
    by_cases h1 : k < n
    · by_cases h2 : k < m
      · obtain ⟨b1, o1, rfl, _, _, hc1⟩ := hx.int_at h1
        obtain ⟨b2, o2, rfl, _, _, hc2⟩ := hy.int_at h2
        have Hs := Lib.hid (cmpI_step (xs := xs) (ys := ys) (by rw [Hx.out]; exact h1) (by rw [Hy.out]; exact h2))
        generalize xs[k]?.getD 0 = x at *
        generalize ys[k]?.getD 0 = y at *
        have i1 : (k : Int) < (n : Int) := by omega
        have i2 : (k : Int) < (m : Int) := by omega
        go_wp2_with fail
        go_quiet (fail)
        by_cases hlt : x < y
        · go_wp2
          go_ret
          exact ⟨ret_int (by rw [Hr.out, Hs.out, if_pos hlt]), by (try simp only [World.drewN_drewN]); exact Drew.mk _ _⟩
        · by_cases hgt : y < x
          · go_wp2_with fail
            go_quiet (fail)
            go_wp2
            go_ret
            exact ⟨ret_int (by rw [Hr.out, Hs.out, if_neg (by omega), if_pos hgt]), by (try simp only [World.drewN_drewN]); exact Drew.mk _ _⟩
          · go_wp2_with fail
            go_quiet (fail)
            go_wp2
            go_roundw
            case rel => exact ⟨k + 1, _, by omega, by omega, by go_num, by rw [Hr.out, Hs.out, if_neg (by omega), if_neg (by omega)], by (try simp only [World.drewN_drewN]); rfl⟩
            case measure => simp [intOf]; omega
      · have He := Lib.hid (cmpI_end (xs := xs) (ys := ys) (k := k) Hx.out Hy.out (by omega) hk hkm)
        have h3 : m < n := by omega
        have h4 : decide (k < m) = false := by simpa using h2
        go_wp2
        go_ret
        exact ⟨ret_int (by rw [Hr.out, He.out, if_neg (by omega), if_pos h3]), Drew.mk _ _⟩
    · have He := Lib.hid (cmpI_end (xs := xs) (ys := ys) (k := k) Hx.out Hy.out (by omega) hk hkm)
      have h4 : decide (k < n) = false := by simpa using h1
      by_cases h3 : n < m
      · go_wp2
        go_ret
        exact ⟨ret_int (by rw [Hr.out, He.out, if_pos h3]), Drew.mk _ _⟩
      · have h5 : n = m := by omega
        subst h5
        go_wp2
        go_ret
        exact ⟨ret_int (by rw [Hr.out, He.out, if_neg (by omega), if_neg (by omega)]), Drew.mk _ _⟩

theorem list_eq_getD {α : Type} {xs ys : List α} (z : α) {n : Nat} (h1 : xs.length = n) (h2 : ys.length = n) (h : ∀ j, j < n → xs[j]?.getD z = ys[j]?.getD z) : xs = ys := by
  apply List.ext_getElem (by omega)
  intro i hi hi'
  have := h i (by omega)
  rwa [List.getElem?_eq_getElem hi, List.getElem?_eq_getElem hi'] at this

set_option maxRecDepth 100000 in
theorem eqInts_any (A B : Option Addr) (n c m d : Nat) (xs ys : List Int) (w : World) (p q : Nat → Prop) (hx : Sl w p 1 A n (ints xs)) (hy : Sl w q 1 B m (ints ys)) :
    Calls Tryz.prog 78 #[.slice A n c, .slice B m d] w fun e w' => e = .returned (.bool (decide (xs = ys))) ∧ Drew w w' := by
  have hm1 : n ≤ 9223372036854775807 := by have := hx.2.1; unfold maxLen at this; omega
  have Hx := Lib.hid hx.len1
  have Hy := Lib.hid hy.len1
  by_cases hnm : n = m
  · subst hnm
    go_enter Tryz.func78, Tryz.ntmps78
    go_wp2_with fail
    go_loopw [13] (fun i wr => ∃ (k d : Nat), k ≤ n ∧ i = .int .i64 k ∧ (∀ j, j < k → xs[j]?.getD 0 = ys[j]?.getD 0) ∧ wr = w.drewN d) (fun i _ => n - (intOf i).toNat)
    case atStart => exact ⟨0, 0, Nat.zero_le _, rfl, fun j h => absurd h (by omega), rfl⟩
    case round =>
      obtain ⟨k, d, hk, rfl, hr, rfl⟩ := hrel
      have Hr := Lib.hid hr; clear hr
      by_cases h1 : k < n
      · obtain ⟨b1, o1, rfl, _, _, hc1⟩ := hx.int_at h1
        obtain ⟨b2, o2, rfl, _, _, hc2⟩ := hy.int_at h1
        have i1 : (k : Int) < (n : Int) := by omega
        by_cases hxy : xs[k]?.getD 0 = ys[k]?.getD 0
        · have Hs := Lib.hid (lt_succ_all Hr.out hxy)
          generalize xs[k]?.getD 0 = x at *
          generalize ys[k]?.getD 0 = y at *
          subst hxy
          go_wp2_with fail
          go_quiet (fail)
          go_wp2
          go_roundw
          case rel => exact ⟨k + 1, _, by omega, by go_num, Hs.out, by (try simp only [World.drewN_drewN]); rfl⟩
          case measure => simp [intOf]; omega
        · have Hn : Hid (decide (xs = ys) = false) := Lib.hid (by simp; intro h; exact hxy (by rw [h]))
          generalize xs[k]?.getD 0 = x at *
          generalize ys[k]?.getD 0 = y at *
          go_wp2_with fail
          go_quiet (fail)
          go_wp2
          go_ret
          exact ⟨ret_bool Hn.out.symm, by (try simp only [World.drewN_drewN]); exact Drew.mk _ _⟩
      · obtain rfl : k = n := by omega
        have Hn : Hid (decide (xs = ys) = true) := Lib.hid (by simp; exact list_eq_getD 0 Hx.out Hy.out Hr.out)
        go_wp2
        go_ret
        exact ⟨ret_bool Hn.out.symm, Drew.mk _ _⟩
  · have Hn : Hid (decide (xs = ys) = false) := Lib.hid (by simp; intro h; exact hnm (by rw [← Hx.out, ← Hy.out, h]))
    go_enter Tryz.func78, Tryz.ntmps78
    go_wp2
    go_ret
    exact ⟨ret_bool Hn.out.symm, Drew.refl _⟩
set_option maxRecDepth 100000 in
theorem eqBools_any (A B : Option Addr) (n c m d : Nat) (xs ys : List Bool) (w : World) (p q : Nat → Prop) (hx : Sl w p 1 A n (bools xs)) (hy : Sl w q 1 B m (bools ys)) :
    Calls Tryz.prog 75 #[.slice A n c, .slice B m d] w fun e w' => e = .returned (.bool (decide (xs = ys))) ∧ Drew w w' := by
  have hm1 : n ≤ 9223372036854775807 := by have := hx.2.1; unfold maxLen at this; omega
  have Hx := Lib.hid hx.lenb
  have Hy := Lib.hid hy.lenb
  by_cases hnm : n = m
  · subst hnm
    go_enter Tryz.func75, Tryz.ntmps75
    go_wp2_with fail
    go_loopw [13] (fun i wr => ∃ (k d : Nat), k ≤ n ∧ i = .int .i64 k ∧ (∀ j, j < k → xs[j]?.getD false = ys[j]?.getD false) ∧ wr = w.drewN d) (fun i _ => n - (intOf i).toNat)
    case atStart => exact ⟨0, 0, Nat.zero_le _, rfl, fun j h => absurd h (by omega), rfl⟩
    case round =>
      obtain ⟨k, d, hk, rfl, hr, rfl⟩ := hrel
      have Hr := Lib.hid hr; clear hr
      by_cases h1 : k < n
      · obtain ⟨b1, o1, rfl, _, _, hc1⟩ := hx.bool_at h1
        obtain ⟨b2, o2, rfl, _, _, hc2⟩ := hy.bool_at h1
        have i1 : (k : Int) < (n : Int) := by omega
        by_cases hxy : xs[k]?.getD false = ys[k]?.getD false
        · have Hs := Lib.hid (lt_succ_all Hr.out hxy)
          generalize xs[k]?.getD false = x at *
          generalize ys[k]?.getD false = y at *
          subst hxy
          go_wp2_with fail
          go_quiet (fail)
          go_wp2
          go_roundw
          case rel => exact ⟨k + 1, _, by omega, by go_num, Hs.out, by (try simp only [World.drewN_drewN]); rfl⟩
          case measure => simp [intOf]; omega
        · have Hn : Hid (decide (xs = ys) = false) := Lib.hid (by simp; intro h; exact hxy (by rw [h]))
          generalize xs[k]?.getD false = x at *
          generalize ys[k]?.getD false = y at *
          cases x <;> cases y <;> first | exact absurd rfl hxy | clear hxy
          all_goals
            go_wp2_with fail
            go_quiet (fail)
            go_wp2
            go_ret
            exact ⟨ret_bool Hn.out.symm, by (try simp only [World.drewN_drewN]); exact Drew.mk _ _⟩
      · obtain rfl : k = n := by omega
        have Hn : Hid (decide (xs = ys) = true) := Lib.hid (by simp; exact list_eq_getD false Hx.out Hy.out Hr.out)
        go_wp2
        go_ret
        exact ⟨ret_bool Hn.out.symm, Drew.mk _ _⟩
  · have Hn : Hid (decide (xs = ys) = false) := Lib.hid (by simp; intro h; exact hnm (by rw [← Hx.out, ← Hy.out, h]))
    go_enter Tryz.func75, Tryz.ntmps75
    go_wp2
    go_ret
    exact ⟨ret_bool Hn.out.symm, Drew.refl _⟩

theorem eqAut1_any (A B : Option Addr) (n c m d : Nat) (xs ys : List Int) (w : World) (p q : Nat → Prop) (hx : Sl w p 1 A n (ints xs)) (hy : Sl w q 1 B m (ints ys)) :
    Calls Tryz.prog 77 #[.slice A n c, .slice B m d] w fun e w' => e = .returned (.bool (decide (xs = ys))) ∧ Drew w w' := by
  go_enter Tryz.func77, Tryz.ntmps77
  go_wp2_with (go_at_call 78; refine (eqInts_any A B n c m d xs ys w p q hx hy).mono ?_; rintro e w1 ⟨rfl, hd⟩)
  go_ret
  exact ⟨rfl, hd⟩

/-- slices.EqualFunc over rows, the test being EqualAutomata's literal -/
theorem eqRows_any (A B : Option Addr) (n c m d : Nat) (xs ys : List (List Int)) (w : World) (p q : Nat → Prop) (hx : Sls w p A n xs) (hy : Sls w q B m ys) :
    Calls Tryz.prog 76 #[.slice A n c, .slice B m d, .func (.func 77) #[] #[]] w fun e w' => e = .returned (.bool (decide (xs = ys))) ∧ Drew w w' := by
  have hm1 : n ≤ 9223372036854775807 := by have := hx.le; unfold maxLen at this; omega
  have Hx := Lib.hid hx.len
  have Hy := Lib.hid hy.len
  by_cases hnm : n = m
  · subst hnm
    go_enter Tryz.func76, Tryz.ntmps76
    go_wp2_with fail
    go_loopw [17] (fun i wr => ∃ (k : Nat), k ≤ n ∧ i = .int .i64 k ∧ (∀ j, j < k → xs[j]?.getD [] = ys[j]?.getD []) ∧ Drew w wr) (fun i _ => n - (intOf i).toNat)
    case atStart => exact ⟨0, Nat.zero_le _, rfl, fun j h => absurd h (by omega), Drew.refl _⟩
    case round =>
      obtain ⟨k, hk, rfl, hr, d1, rfl⟩ := hrel
      have Hr := Lib.hid hr; clear hr
      by_cases h1 : k < n
      · obtain ⟨b1, o1, A1, m1, c1, rfl, _, _, hc1, hm1, hr1⟩ := hx.row_at h1
        obtain ⟨b2, o2, A2, m2, c2, rfl, _, _, hc2, hm2, hr2⟩ := hy.row_at h1
        clear hm1 hm2
        have hr1 : Sl (w.drewN d1) p 1 A1 m1 (ints (xs[k]?.getD [])) := hr1
        have hr2 : Sl (w.drewN d1) q 1 A2 m2 (ints (ys[k]?.getD [])) := hr2
        have Hs := Lib.hid (lt_succ_all (P := fun j => xs[j]?.getD [] = ys[j]?.getD []) Hr.out)
        have Hn : Hid (xs[k]?.getD [] ≠ ys[k]?.getD [] → decide (xs = ys) = false) := Lib.hid (fun hxy => by simp; intro h; exact hxy (by rw [h]))
        cases hxy : decide (xs[k]?.getD [] = ys[k]?.getD []) with
        | true =>
          have Hs2 := Lib.hid (Hs.out (of_decide_eq_true hxy))
          go_wp2_with (go_at_call 77; refine (eqAut1_any A1 A2 m1 c1 m2 c2 _ _ _ p q hr1 hr2).mono ?_; rintro e w1 ⟨rfl, hd⟩)
          obtain ⟨d2, rfl⟩ := hd
          go_roundw
          case rel => exact ⟨k + 1, by omega, by go_num, Hs2.out, by (try simp only [World.drewN_drewN]); exact Drew.mk _ _⟩
          case measure => simp [intOf]; omega
        | false =>
          have Hn2 := Lib.hid (Hn.out (of_decide_eq_false hxy))
          go_wp2_with (go_at_call 77; refine (eqAut1_any A1 A2 m1 c1 m2 c2 _ _ _ p q hr1 hr2).mono ?_; rintro e w1 ⟨rfl, hd⟩)
          obtain ⟨d2, rfl⟩ := hd
          go_ret
          exact ⟨ret_bool Hn2.out.symm, by (try simp only [World.drewN_drewN]); exact Drew.mk _ _⟩
      · obtain rfl : k = n := by omega
        have Hn : Hid (decide (xs = ys) = true) := Lib.hid (by simp; exact list_eq_getD [] Hx.out Hy.out Hr.out)
        go_wp2
        go_ret
        exact ⟨ret_bool Hn.out.symm, Drew.mk _ _⟩
  · have Hn : Hid (decide (xs = ys) = false) := Lib.hid (by simp; intro h; exact hnm (by rw [← Hx.out, ← Hy.out, h]))
    go_enter Tryz.func76, Tryz.ntmps76
    go_wp2
    go_ret
    exact ⟨ret_bool Hn.out.symm, Drew.refl _⟩
end Go.Proofs.YtmnhpbbapkcdjaaGreat

/- Walks: the first index of a value, of a row. -/
namespace Go.Proofs.YtmnhpbbapkcdjaaGreat
open Go.RowKit

set_option maxRecDepth 100000 in
theorem index_any (A : Option Addr) (n c : Nat) (xs : List Int) (x : Int) (p : Nat → Prop) (w : World) (h : Sl w p 1 A n (ints xs)) :
    Calls Tryz.prog 70 #[.slice A n c, .int .i64 x] w fun e w' => e = .returned (.int .i64 (findI x xs 0)) ∧ w = w' := by
  have hm : n ≤ 9223372036854775807 := by have := h.2.1; unfold maxLen at this; omega
  have H := Lib.hid h.len1
  go_enter Tryz.func70, Tryz.ntmps70
  go_wp2
  go_loop [8] (fun i => ∃ k : Nat, k ≤ n ∧ i = .int .i64 k ∧ Hid (findI x xs 0 = findI x (xs.drop k) k)) (fun i => n - (intOf i).toNat)
  case atStart => exact ⟨0, Nat.zero_le _, rfl, Lib.hid rfl⟩
  case round =>
    obtain ⟨k, hk, rfl, Hf⟩ := hrel
    by_cases hlt : k < n
    · obtain ⟨b, off, rfl, _, hb, hc⟩ := h.int_at hlt
      have Hs := Lib.hid (findI_step x xs k (by rw [H.out]; exact hlt))
      generalize xs[k]?.getD 0 = y at *
      by_cases hy : y = x
      · have hy' : (x == y) = true := by simpa using hy.symm
        have He := Lib.hid (show findI x xs 0 = (k : Int) by rw [Hf.out, Hs.out, if_pos hy])
        clear hy
        go_wp2
        go_ret
        exact ⟨by rw [He.out]; rfl, rfl⟩
      · have hy' : (x == y) = false := by simpa using fun e => hy (Eq.symm e)
        have He := Lib.hid (show findI x xs 0 = findI x (xs.drop (k + 1)) (k + 1) by rw [Hf.out, Hs.out, if_neg hy])
        clear hy
        go_wp2
        go_round
        case rel => exact ⟨k + 1, by omega, by go_num, He⟩
        case measure => simp [intOf]; omega
    · have He := Lib.hid (show findI x xs 0 = -1 by rw [Hf.out]; exact findI_end x xs k (by rw [H.out]; omega))
      go_wp2
      go_ret
      exact ⟨by rw [He.out]; rfl, rfl⟩

theorem refine1_any (A B : Option Addr) (n c m d g : Nat) (xs ys : List Int) (w : World) (p q : Nat → Prop) (hx : Sl w p 1 A n (ints xs)) (hy : Sl w q 1 B m (ints ys)) (hB : Blk w g 24 #[.slice B m d]) :
    Calls Tryz.prog 104 #[.slice A n c, .pointer (some ⟨g, 0, none⟩)] w fun e w' => e = .returned (.bool (decide (xs = ys))) ∧ Drew w w' := by
  have f0 := hB.cell 0
  simp at f0
  go_enter Tryz.func104, Tryz.ntmps104
  go_wp2_with (go_at_call 78; refine (eqInts_any A B n c m d xs ys w p q hx hy).mono ?_; rintro e w1 ⟨rfl, hd⟩)
  go_ret
  exact ⟨rfl, hd⟩

theorem indexRow_any (A B : Option Addr) (n c m d g : Nat) (K : List (List Int)) (ys : List Int) (w : World) (p q : Nat → Prop) (hx : Sls w p A n K) (hy : Sl w q 1 B m (ints ys)) (hB : Blk w g 24 #[.slice B m d]) :
    Calls Tryz.prog 103 #[.slice A n c, .func (.func 104) #[] #[.pointer (some ⟨g, 0, none⟩)]] w fun e w' => e = .returned (.int .i64 (findG ys K 0)) ∧ Drew w w' := by
  have hm1 : n ≤ 9223372036854775807 := by have := hx.le; unfold maxLen at this; omega
  have H := Lib.hid hx.len
  go_enter Tryz.func103, Tryz.ntmps103
  go_wp2_with fail
  go_loopw [8] (fun i wr => ∃ (k : Nat), k ≤ n ∧ i = .int .i64 k ∧ Hid (findG ys K 0 = findG ys (K.drop k) k) ∧ Drew w wr) (fun i _ => n - (intOf i).toNat)
  case atStart => exact ⟨0, Nat.zero_le _, rfl, Lib.hid rfl, Drew.refl _⟩
  case round =>
    obtain ⟨k, hk, rfl, Hf, d1, rfl⟩ := hrel
    by_cases hlt : k < n
    · obtain ⟨b1, o1, A1, m1, c1, rfl, _, _, hc1, hm1, hr1⟩ := hx.row_at hlt
      clear hm1
      have hr1 : Sl (w.drewN d1) p 1 A1 m1 (ints (K[k]?.getD [])) := hr1
      have hy1 : Sl (w.drewN d1) q 1 B m (ints ys) := hy
      have hB1 : Blk (w.drewN d1) g 24 #[.slice B m d] := hB
      have Hs := Lib.hid (findG_step ys [] K k (by rw [H.out]; exact hlt))
      cases hxy : decide (K[k]?.getD [] = ys) with
      | true =>
        have He := Lib.hid (show findG ys K 0 = (k : Int) by rw [Hf.out, Hs.out, if_pos (of_decide_eq_true hxy)])
        go_wp2_with (go_at_call 104; refine (refine1_any A1 B m1 c1 m d g _ _ _ p q hr1 hy1 hB1).mono ?_; rintro e w1 ⟨rfl, hd⟩)
        obtain ⟨d2, rfl⟩ := hd
        go_ret
        exact ⟨by rw [He.out]; rfl, by (try simp only [World.drewN_drewN]); exact Drew.mk _ _⟩
      | false =>
        have He := Lib.hid (show findG ys K 0 = findG ys (K.drop (k + 1)) (k + 1) by rw [Hf.out, Hs.out, if_neg (of_decide_eq_false hxy)])
        go_wp2_with (go_at_call 104; refine (refine1_any A1 B m1 c1 m d g _ _ _ p q hr1 hy1 hB1).mono ?_; rintro e w1 ⟨rfl, hd⟩)
        obtain ⟨d2, rfl⟩ := hd
        go_roundw
        case rel => exact ⟨k + 1, by omega, by go_num, He, by (try simp only [World.drewN_drewN]); exact Drew.mk _ _⟩
        case measure => simp [intOf]; omega
    · have He := Lib.hid (show findG ys K 0 = -1 by rw [Hf.out]; exact findG_end ys K k (by rw [H.out]; omega))
      go_wp2
      go_ret
      exact ⟨by rw [He.out]; rfl, Drew.mk _ _⟩
end Go.Proofs.YtmnhpbbapkcdjaaGreat

/- l11Live of the specification, walked. -/
namespace Go.Proofs.YtmnhpbbapkcdjaaGreat
open Go.RowKit

/-- a slice of the call's own, of n bools -/
def OwnB (w w' : World) (n : Nat) (xs : List Bool) (e : Ending) : Prop :=
  ∃ g cap, e = .returned (.slice (some ⟨g, 0, none⟩) n cap) ∧ w'.ownsRow w.heap.size 4 1 (.slice (some ⟨g, 0, none⟩) n cap) n (bools xs) ∧ Below w.heap.size w w'

/-- the rounds' invariant -/
structure LvI (a : Aut) (w w1 : World) (g cap : Nat) (o : List Bool) (wr : World) : Prop where
  own : wr.ownsRow w.heap.size 4 1 (.slice (some ⟨g, 0, none⟩) a.n cap) a.n (bools o)
  gr : w1.grownBy wr (some g)
theorem LvI.set {a : Aut} {w w1 wr : World} {g cap s : Nat} {o : List Bool} (h : LvI a w w1 g cap o wr) : LvI a w w1 g cap (o.set s true) (wr.setCell ⟨g, s, none⟩ (.bool true)) :=
  ⟨(own_bool_set h.own s true).1, grown_trans h.gr (own_bool_set h.own s true).2⟩

theorem LvI.yes {a : Aut} {w w1 wr : World} {g cap s k : Nat} {o : List Bool} (h : LvI a w w1 g cap o wr) (h0 : 0 ≤ a.nx s k) (h1 : o[(a.nx s k).toNat]?.getD false = true) :
    LvI a w w1 g cap (lvStep a s o k) (wr.setCell ⟨g, s, none⟩ (.bool true)) := by
  unfold lvStep; rw [if_pos ⟨h0, h1⟩]; exact h.set
theorem LvI.no {a : Aut} {w w1 wr : World} {g cap s k : Nat} {o : List Bool} (h : LvI a w w1 g cap o wr) (h0 : ¬ (0 ≤ a.nx s k ∧ o[(a.nx s k).toNat]?.getD false = true)) :
    LvI a w w1 g cap (lvStep a s o k) wr := by
  unfold lvStep; rw [if_neg h0]; exact h
theorem LvI.out {a : Aut} {w w1 wr : World} {g cap : Nat} {o : List Bool} (h : LvI a w w1 g cap o wr) (hb1 : Below w.heap.size w w1) (hg : w.heap.size ≤ g) :
    OwnB w wr a.n o (.returned (.slice (some ⟨g, 0, none⟩) a.n cap)) := by
  exact ⟨g, cap, rfl, h.own, hb1.grown h.gr hb1.size (by simpa using hg)⟩

set_option maxRecDepth 100000 in
theorem l11Live_any (a : Aut) (v : Value) (w : World) (p : Nat → Prop) (h : AutV w p v a) (hf : a.Fits) (hn : a.n ≤ 1000) :
    Calls Tryz.prog 42 #[v] w fun e w' => OwnB w w' a.n (liveF a) e := by
  obtain ⟨A1, c1, A2, c2, rfl, h1, h2⟩ := h.fit hf
  have h2 : Sls w (· < w.heap.size) A2 a.n a.next := h2.weak (fun b _ h => h)
  have HF := Lib.hid hf; clear hf
  go_enter Tryz.func42, Tryz.ntmps42
  go_wp2_with (at_builtin; refine wpList_apps elBool rfl _ _ rfl w.heap.size _ 0 [] rfl (own0 (by simp) (by omega)) p A1 a.n c1 (bools a.acc) rfl (h1.keep ?hw ?hk) (bools_one _) ?hb ?h63 ?hbase ?_)
  case hw => simp; omega
  case hk => intro b hp hb; exact (below_alloc2 _ _ _).block b hb
  case hb => omega
  case h63 => omega
  case hbase => simp; omega
  intro v1 w1 hown hgr hat
  try simp only [Nat.zero_add, List.nil_append] at hown
  have hpos : 0 < a.n := by have := HF.out.2.1; have := HF.out.1; omega
  obtain ⟨g, cap, rfl, hbg, hlg⟩ := hown.form hpos
  have hB1 : Blk w1 w.heap.size 31 #[.int .i64 a.start, .slice A1 a.n c1, .slice A2 a.n c2] := ((Blk.new _ _ _).alloc _).grown hgr (by simp [Value.ownBlock])
  have hne := own_blk_ne hown hB1 (by decide)
  simp only [Value.ownBlock, ne_eq, Option.some.injEq] at hne
  have hb1 : Below w.heap.size w w1 := (below_alloc2 w _ _).grown hgr (by simp; omega) (by simp [Value.ownBlock])
  have hI : LvI a w w1 g cap a.acc w1 := ⟨hown, World.grownBy.refl _ _⟩
  have hs2 := h2.below hb1 (fun b h _ => h)
  clear hgr hat hown h1
  go_wp2_with fail
  go_loopw [4] (fun i wr => ∃ k : Nat, k ≤ a.n ∧ i = .int .i64 k ∧ LvI a w w1 g cap (upto (lvAll a) a.acc k) wr) (fun i _ => a.n - (intOf i).toNat)
  case atStart => exact ⟨0, Nat.zero_le _, rfl, hI⟩
  case round =>
    obtain ⟨k1, hk1, rfl, hI1⟩ := hrel
    obtain ⟨w2, rfl⟩ : ∃ wo : World, wo = wr := ⟨_, rfl⟩
    have hB2 := hB1.grown hI1.gr (by simpa using hne)
    have c1 := hB2.cell 1
    simp at c1
    by_cases hlt : k1 < a.n
    · go_wp2
      go_loopw [5] (fun i wr => ∃ k : Nat, k ≤ a.n ∧ i = .int .i64 k ∧ LvI a w w1 g cap (upto (lvRow a) (upto (lvAll a) a.acc k1) k) wr) (fun i _ => a.n - (intOf i).toNat)
      case atStart => exact ⟨0, Nat.zero_le _, rfl, hI1⟩
      case round =>
        obtain ⟨k2, hk2, rfl, hI2⟩ := hrel
        clear hB2 c1 hI1
        obtain ⟨w3, rfl⟩ : ∃ wo : World, wo = wr := ⟨_, rfl⟩
        have hB2 := hB1.grown hI2.gr (by simpa using hne)
        have c1 := hB2.cell 1
        simp at c1
        by_cases hlt2 : k2 < a.n
        · go_wp2
          go_loopw [6] (fun i wr => ∃ k : Nat, k ≤ 9 ∧ i = .int .i64 k ∧ LvI a w w1 g cap (upto (lvStep a k2) (upto (lvRow a) (upto (lvAll a) a.acc k1) k2) k) wr) (fun i _ => 9 - (intOf i).toNat)
          case atStart => exact ⟨0, Nat.zero_le _, rfl, hI2⟩
          case round =>
            obtain ⟨k3, hk3, rfl, hI3⟩ := hrel
            clear hB2 c1 hI2
            have hB2 := hB1.grown hI3.gr (by simpa using hne)
            have c2 := hB2.cell 2
            simp at c2
            by_cases hlt3 : k3 < 9
            · have hs3 : Sls wr (· < w.heap.size) A2 a.n a.next := hs2.keep hI3.gr.size (fun b hp hb => hI3.gr.block b hb (by simp; omega))
              obtain ⟨bN, oN, bR, oR, cR, rfl, hcN, hcR, hx1, hx2⟩ := hs3.nx_at HF.out hlt2 hlt3
              clear hs3
              by_cases h0 : 0 ≤ a.nx k2 k3
              · have hco := own_bool_at hI3.own (k := (a.nx k2 k3).toNat) (by omega)
                have hfr := hI3.own.frozenAt k2
                have hcs := own_bool_at hI3.own hlt2
                go_wp2
                · go_roundw
                  case rel => exact ⟨k3 + 1, by omega, by go_num, hI3.yes h0 (by assumption)⟩
                  case measure => simp [intOf]; omega
                · go_roundw
                  case rel => exact ⟨k3 + 1, by omega, by go_num, hI3.no (by simp [*])⟩
                  case measure => simp [intOf]; omega
              · go_wp2
                go_roundw
                case rel => exact ⟨k3 + 1, by omega, by go_num, hI3.no (fun h => h0 h.1)⟩
                case measure => simp [intOf]; omega
            · obtain rfl : k3 = 9 := by omega
              go_wp2
              go_roundw
              case rel => exact ⟨k2 + 1, by omega, by go_num, hI3⟩
              case measure => simp [intOf]; omega
        · obtain rfl : k2 = a.n := by omega
          go_wp2
          go_roundw
          case rel => exact ⟨k1 + 1, by omega, by go_num, hI2⟩
          case measure => simp [intOf]; omega
    · obtain rfl : k1 = a.n := by omega
      go_wp2
      go_ret
      exact hI1.out hb1 hbg
end Go.Proofs.YtmnhpbbapkcdjaaGreat
