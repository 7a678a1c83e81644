/- Plain law: two numberings that run side by side give the same; what a numbering gives. No program in sight; Walks: minimization, the implementation; Walks: the classes of states, the specification. No condition. -/
import Derived.Test.YtmnhpbbapkcdjaaGreatA23
import Derived.Laws.EntriesVeiled

/- Plain law: two numberings that run side by side give the same; what a numbering gives. No program in sight. -/
namespace Go.Proofs.YtmnhpbbapkcdjaaGreat

/-- both nothing, or both something, related -/
def OptR (R : Int → Int → Prop) : Option Int → Option Int → Prop
  | none, none => True
  | some x, some y => R x y
  | _, _ => False
theorem getD_some {α : Type} {l : List α} {i : Nat} {d : α} (h : i < l.length) : l[i]?.getD d = l[i] := by rw [List.getElem?_eq_getElem h]; rfl
inductive All2 {α β : Type} (R : α → β → Prop) : List α → List β → Prop
  | nil : All2 R [] []
  | cons {x : α} {y : β} {l : List α} {l' : List β} : R x y → All2 R l l' → All2 R (x :: l) (y :: l')
theorem findI_map_iff {f g : Int → Int} {x y : Int} : ∀ (l l' : List Int) (k : Nat), All2 (fun a b => f a = x ↔ g b = y) l l' → findI x (l.map f) k = findI y (l'.map g) k
  | _, _, k, .nil => rfl
  | a :: l, b :: l', k, .cons h t => by
    simp only [List.map_cons, findI]
    by_cases ha : f a = x
    · rw [if_pos ha, if_pos (h.1 ha)]
    · rw [if_neg ha, if_neg (fun e => ha (h.2 e)), findI_map_iff l l' (k + 1) t]
structure Sim (R : Int → Int → Prop) (cl1 cl2 : Int → Int) (nx1 nx2 : Int → Nat → Option Int) (ac1 ac2 : Int → Bool) : Prop where
  ac : ∀ s t, R s t → ac1 s = ac2 t
  nx : ∀ s t k, R s t → k < 9 → OptR R (nx1 s k) (nx2 t k)
  cl : ∀ s t s' t', R s t → R s' t' → (cl1 s = cl1 s' ↔ cl2 t = cl2 t')
section
variable {R : Int → Int → Prop} {cl1 cl2 : Int → Int} {nx1 nx2 : Int → Nat → Option Int} {ac1 ac2 : Int → Bool}
theorem All2.get {α β : Type} {R : α → β → Prop} : ∀ {l : List α} {l' : List β}, All2 R l l' → ∀ i (h : i < l.length) (h' : i < l'.length), R l[i] l'[i]
  | _, _, .cons h _, 0, _, _ => h
  | _, _, .cons _ t, i + 1, h, h' => All2.get t i (by simpa using h) (by simpa using h')
theorem All2.len {α β : Type} {R : α → β → Prop} : ∀ {l : List α} {l' : List β}, All2 R l l' → l.length = l'.length
  | _, _, .nil => rfl
  | _, _, .cons _ t => by simp [All2.len t]
theorem All2.snoc {α β : Type} {R : α → β → Prop} {x : α} {y : β} (h : R x y) : ∀ {l : List α} {l' : List β}, All2 R l l' → All2 R (l ++ [x]) (l' ++ [y])
  | _, _, .nil => .cons h .nil
  | _, _, .cons h' t => .cons h' (All2.snoc h t)
theorem All2.imp_ {α β : Type} {R S : α → β → Prop} (h : ∀ a b, R a b → S a b) : ∀ {l : List α} {l' : List β}, All2 R l l' → All2 S l l'
  | _, _, .nil => .nil
  | _, _, .cons h' t => .cons (h _ _ h') (All2.imp_ h t)
theorem Sim.step (S : Sim R cl1 cl2 nx1 nx2 ac1 ac2) {s t : Int} (hst : R s t) {a b : List Int × List Int} {k : Nat} (hk : k < 9) (h1 : All2 R a.1 b.1) (h2 : a.2 = b.2) :
    All2 R (rowStepC cl1 nx1 s a k).1 (rowStepC cl2 nx2 t b k).1 ∧ (rowStepC cl1 nx1 s a k).2 = (rowStepC cl2 nx2 t b k).2 := by
  have h := S.nx s t k hst hk
  unfold rowStepC
  revert h
  cases e1 : nx1 s k with
  | none =>
    cases e2 : nx2 t k with
    | none => intro _; exact ⟨h1, by simp [h2]⟩
    | some y => intro h; exact h.elim
  | some x =>
    cases e2 : nx2 t k with
    | none => intro h; exact h.elim
    | some y =>
      intro h
      have hxy : R x y := h
      have hf : findI (cl1 x) (a.1.map cl1) 0 = findI (cl2 y) (b.1.map cl2) 0 := findI_map_iff _ _ 0 (All2.imp_ (fun c d hcd => S.cl c d x y hcd hxy) h1)
      simp only [hf]
      split
      · exact ⟨All2.snoc hxy h1, by simp [h2, All2.len h1]⟩
      · exact ⟨h1, by simp [h2]⟩
theorem Sim.row (S : Sim R cl1 cl2 nx1 nx2 ac1 ac2) {s t : Int} (hst : R s t) {ls ls' : List Int} (h : All2 R ls ls') : ∀ k, k ≤ 9 →
    All2 R (upto (rowStepC cl1 nx1 s) (ls, []) k).1 (upto (rowStepC cl2 nx2 t) (ls', []) k).1 ∧ (upto (rowStepC cl1 nx1 s) (ls, []) k).2 = (upto (rowStepC cl2 nx2 t) (ls', []) k).2
  | 0, _ => ⟨h, rfl⟩
  | k + 1, hk => by
    have h2 := S.row hst h k (by omega)
    exact S.step hst (by omega) h2.1 h2.2
theorem Sim.run (S : Sim R cl1 cl2 nx1 nx2 ac1 ac2) : ∀ (f i : Nat) (ls ls' : List Int) (acc : List Bool) (nxs : List (List Int)), All2 R ls ls' →
    numRunC cl1 nx1 ac1 f i ls acc nxs = numRunC cl2 nx2 ac2 f i ls' acc nxs
  | 0, _, _, _, _, _, _ => rfl
  | f + 1, i, ls, ls', acc, nxs, h => by
    have hl := All2.len h
    unfold numRunC
    by_cases hi : i < ls.length
    · rw [if_pos hi, if_pos (by omega)]
      have hst : R (ls[i]?.getD 0) (ls'[i]?.getD 0) := by
        rw [getD_some hi, getD_some (by omega : i < ls'.length)]
        exact All2.get h i hi (by omega)
      have hr := S.row hst h 9 (by omega)
      rw [S.ac _ _ hst, show (rowC cl1 nx1 (ls[i]?.getD 0) ls).2 = (rowC cl2 nx2 (ls'[i]?.getD 0) ls').2 from hr.2]
      exact S.run f (i + 1) _ _ _ _ hr.1
    · rw [if_neg hi, if_neg (by omega)]
end

/-- good states: closed, and so many at most whose classes are all apart -/
structure Good (G : Int → Prop) (cl : Int → Int) (nx : Int → Nat → Option Int) (most : Nat) : Prop where
  nx : ∀ s k t, G s → k < 9 → nx s k = some t → G t
  le : ∀ l : List Int, (∀ x ∈ l, G x) → (l.map cl).Nodup → l.length ≤ most
structure GoodL (G : Int → Prop) (cl : Int → Int) (ls : List Int) : Prop where
  g : ∀ x ∈ ls, G x
  nd : (ls.map cl).Nodup
section
variable {G : Int → Prop} {cl : Int → Int} {nx : Int → Nat → Option Int} {ac : Int → Bool} {most : Nat}
theorem GoodL.step (h : Good G cl nx most) {s : Int} {st : List Int × List Int} {k : Nat} (hs : G s) (hk : k < 9) (hl : GoodL G cl st.1) : GoodL G cl (rowStepC cl nx s st k).1 := by
  unfold rowStepC
  cases e : nx s k with
  | none => exact hl
  | some t =>
    simp only
    split
    · rename_i hf
      refine ⟨fun x hx => ?_, ?_⟩
      · rcases List.mem_append.1 hx with hx | hx
        · exact hl.g x hx
        · simp at hx; subst hx; exact h.nx s k x hs hk e
      · rw [List.map_append]
        refine List.nodup_append.2 ⟨hl.nd, by simp, fun x hx y hy he => ?_⟩
        simp at hy
        subst hy he
        have := (findI_mem (cl t) (st.1.map cl) 0).2 hx
        omega
    · exact hl
theorem GoodL.rows (h : Good G cl nx most) {s : Int} {ls : List Int} (hs : G s) (hl : GoodL G cl ls) : ∀ k, k ≤ 9 → GoodL G cl (upto (rowStepC cl nx s) (ls, []) k).1
  | 0, _ => hl
  | k + 1, hk => GoodL.step h hs (by omega) (GoodL.rows h hs hl k (by omega))
theorem rowStepC_id {s : Int} {st : List Int × List Int} {k : Nat} : rowStep nx s st k = rowStepC id nx s st k := by
  unfold rowStep rowStepC
  cases nx s k with
  | none => rfl
  | some t => simp
theorem rowC_id {s : Int} {ls : List Int} : rowF nx s ls = rowC id nx s ls := by
  unfold rowF rowC
  have : rowStep nx s = rowStepC id nx s := by funext st k; exact rowStepC_id
  rw [this]
/-- with a bound that is never passed, the bounded numbering is the numbering -/
theorem numRun_C (h : Good G id nx most) : ∀ (f i : Nat) (ls : List Int) (acc : List Bool) (nxs : List (List Int)), GoodL G id ls → most + 1 < f + i → i ≤ most + 1 →
    numRun nx ac most f i ls acc nxs = some (numRunC id nx ac f i ls acc nxs)
  | 0, i, ls, acc, nxs, _, h1, h2 => absurd h1 (by omega)
  | f + 1, i, ls, acc, nxs, hl, h1, h2 => by
    unfold numRun numRunC
    by_cases hi : i < ls.length
    · rw [if_pos hi, if_pos hi]
      have hs : G (ls[i]?.getD 0) := by rw [getD_some hi]; exact hl.g _ (List.getElem_mem _)
      have h9 := GoodL.rows h hs hl 9 (by omega)
      have hle := h.le _ h9.g h9.nd
      have hll := h.le _ hl.g hl.nd
      rw [rowC_id, if_neg (by unfold rowC; omega)]
      exact numRun_C h f (i + 1) _ _ _ h9 (by omega) (by omega)
    · rw [if_neg hi, if_neg hi]
/-- fuel enough is fuel enough -/
theorem numRunC_fuel (h : Good G cl nx most) : ∀ (f f' i : Nat) (ls : List Int) (acc : List Bool) (nxs : List (List Int)), GoodL G cl ls → most + 1 ≤ f + i → most + 1 ≤ f' + i →
    numRunC cl nx ac f i ls acc nxs = numRunC cl nx ac f' i ls acc nxs
  | f, f', i, ls, acc, nxs, hl, h1, h2 => by
    have hll := h.le _ hl.g hl.nd
    by_cases hi : i < ls.length
    · match f, f', h1, h2 with
      | 0, _, h1, _ => omega
      | _ + 1, 0, _, h2 => omega
      | f + 1, f' + 1, h1, h2 =>
        unfold numRunC
        rw [if_pos hi, if_pos hi]
        have hs : G (ls[i]?.getD 0) := by rw [getD_some hi]; exact hl.g _ (List.getElem_mem _)
        exact numRunC_fuel h f f' (i + 1) _ _ _ (GoodL.rows h hs hl 9 (by omega)) (by omega) (by omega)
    · rw [numRunC_done hi, numRunC_done hi]

/-- the states that are found in the end -/
def numL (cl : Int → Int) (nx : Int → Nat → Option Int) : Nat → Nat → List Int → List Int
  | 0, _, ls => ls
  | f + 1, i, ls => if i < ls.length then numL cl nx f (i + 1) (rowC cl nx (ls[i]?.getD 0) ls).1 else ls
theorem rowC_pre {s : Int} {ls : List Int} : ∃ ex, (rowC cl nx s ls).1 = ls ++ ex := (upto_rowC 9).2
theorem numL_pre : ∀ (f i : Nat) (ls : List Int), ∃ ex, numL cl nx f i ls = ls ++ ex
  | 0, _, ls => ⟨[], by simp [numL]⟩
  | f + 1, i, ls => by
    unfold numL
    split
    · obtain ⟨e1, h1⟩ := rowC_pre (cl := cl) (nx := nx) (s := ls[i]?.getD 0) (ls := ls)
      obtain ⟨e2, h2⟩ := numL_pre f (i + 1) (rowC cl nx (ls[i]?.getD 0) ls).1
      exact ⟨e1 ++ e2, by rw [h2, h1, List.append_assoc]⟩
    · exact ⟨[], by simp⟩
theorem numL_good (h : Good G cl nx most) : ∀ (f i : Nat) (ls : List Int), GoodL G cl ls → GoodL G cl (numL cl nx f i ls)
  | 0, _, _, hl => hl
  | f + 1, i, ls, hl => by
    unfold numL
    split
    · rename_i hi
      exact numL_good h f (i + 1) _ (GoodL.rows h (by rw [getD_some hi]; exact hl.g _ (List.getElem_mem _)) hl 9 (by omega))
    · exact hl
/-- the number of the state behind s by letter k, in the list L -/
def numAt (cl : Int → Int) (nx : Int → Nat → Option Int) (L : List Int) (s : Int) (k : Nat) : Int :=
  match nx s k with
  | none => -1
  | some t => findI (cl t) (L.map cl) 0
def numRow (cl : Int → Int) (nx : Int → Nat → Option Int) (L : List Int) (s : Int) : List Int := (List.range 9).map (numAt cl nx L s)
/-- each state that is found behind s is in L -/
def Has (cl : Int → Int) (nx : Int → Nat → Option Int) (L : List Int) (s : Int) (k : Nat) : Prop := ∀ j t, j < k → nx s j = some t → cl t ∈ L.map cl
theorem findI_pre {x : Int} : ∀ (l l' : List Int) (k : Nat), x ∈ l → findI x (l ++ l') k = findI x l k
  | [], _, _, h => by simp at h
  | y :: l, l', k, h => by
    simp only [List.cons_append, findI]
    by_cases hy : y = x
    · rw [if_pos hy, if_pos hy]
    · rw [if_neg hy, if_neg hy]
      exact findI_pre l l' (k + 1) (by rcases List.mem_cons.1 h with e | h; exact absurd e.symm hy; exact h)
theorem findI_new {x : Int} : ∀ (l l' : List Int) (k : Nat), x ∉ l → findI x (l ++ x :: l') k = (k : Int) + l.length
  | [], l', k, _ => by simp [findI]
  | y :: l, l', k, h => by
    simp only [List.cons_append, findI]
    have hy : ¬ y = x := fun e => h (by simp [e])
    rw [if_neg hy, findI_new l l' (k + 1) (fun hm => h (by simp [hm]))]
    simp; omega
theorem numAt_app {L ex : List Int} {s : Int} {k n : Nat} (h : Has cl nx L s n) (hk : k < n) : numAt cl nx (L ++ ex) s k = numAt cl nx L s k := by
  unfold numAt
  cases e : nx s k with
  | none => rfl
  | some t => simp only [List.map_append]; exact findI_pre _ _ 0 (h k t hk e)
theorem Has.app {L ex : List Int} {s : Int} {n : Nat} (h : Has cl nx L s n) : Has cl nx (L ++ ex) s n := fun j t hj e => by
  rw [List.map_append]; exact List.mem_append.2 (.inl (h j t hj e))
theorem rowStepC_at {s : Int} {st : List Int × List Int} {k : Nat} (hh : Has cl nx st.1 s k) (h2 : st.2 = (List.range k).map (numAt cl nx st.1 s)) :
    Has cl nx (rowStepC cl nx s st k).1 s (k + 1) ∧ (rowStepC cl nx s st k).2 = (List.range (k + 1)).map (numAt cl nx (rowStepC cl nx s st k).1 s) := by
  unfold rowStepC
  cases e : nx s k with
  | none =>
    simp only
    refine ⟨fun j t hj ej => ?_, ?_⟩
    · rcases Nat.lt_succ_iff_lt_or_eq.1 hj with h | rfl
      · exact hh j t h ej
      · rw [e] at ej; cases ej
    · rw [List.range_succ, List.map_append, h2]
      simp [numAt, e]
  | some t =>
    simp only
    split
    · rename_i hf
      have hn : cl t ∉ st.1.map cl := fun hm => by have := (findI_mem (cl t) (st.1.map cl) 0).2 hm; omega
      refine ⟨fun j t' hj ej => ?_, ?_⟩
      · rcases Nat.lt_succ_iff_lt_or_eq.1 hj with h | rfl
        · exact hh.app j t' h ej
        · rw [e] at ej; cases ej; simp
      · rw [List.range_succ, List.map_append, h2]
        have e1 : (List.range k).map (numAt cl nx st.1 s) = (List.range k).map (numAt cl nx (st.1 ++ [t]) s) := List.map_congr_left fun j hj => (numAt_app hh (List.mem_range.1 hj)).symm
        have e2 : numAt cl nx (st.1 ++ [t]) s k = (st.1.length : Int) := by
          have := findI_new (x := cl t) (st.1.map cl) [] 0 hn
          simp [numAt, e]
          simpa using this
        show (List.range k).map (numAt cl nx st.1 s) ++ [(st.1.length : Int)] = (List.range k).map (numAt cl nx (st.1 ++ [t]) s) ++ [numAt cl nx (st.1 ++ [t]) s k]
        rw [e1, e2]
    · rename_i hf
      have hm : cl t ∈ st.1.map cl := (findI_mem (cl t) (st.1.map cl) 0).1 (by omega)
      refine ⟨fun j t' hj ej => ?_, ?_⟩
      · rcases Nat.lt_succ_iff_lt_or_eq.1 hj with h | rfl
        · exact hh j t' h ej
        · rw [e] at ej; cases ej; exact hm
      · rw [List.range_succ, List.map_append, h2]
        simp [numAt, e]
theorem rowC_at {s : Int} {ls : List Int} : ∀ k, Has cl nx (upto (rowStepC cl nx s) (ls, []) k).1 s k ∧ (upto (rowStepC cl nx s) (ls, []) k).2 = (List.range k).map (numAt cl nx (upto (rowStepC cl nx s) (ls, []) k).1 s)
  | 0 => ⟨fun j t hj => absurd hj (by omega), rfl⟩
  | k + 1 => rowStepC_at (rowC_at k).1 (rowC_at k).2
/-- WHAT A NUMBERING GIVES. -/
theorem numRunC_at (h : Good G cl nx most) : ∀ (f i : Nat) (ls : List Int) (acc : List Bool) (nxs : List (List Int)), GoodL G cl ls → most + 1 ≤ f + i → i ≤ ls.length →
    numRunC cl nx ac f i ls acc nxs = (acc ++ ((numL cl nx f i ls).drop i).map ac, nxs ++ ((numL cl nx f i ls).drop i).map (numRow cl nx (numL cl nx f i ls))) ∧
      ∀ s ∈ (numL cl nx f i ls).drop i, Has cl nx (numL cl nx f i ls) s 9
  | f, i, ls, acc, nxs, hl, h1, h2 => by
    have hll := h.le _ hl.g hl.nd
    by_cases hi : i < ls.length
    · match f, h1 with
      | 0, h1 => omega
      | f + 1, h1 =>
        have hs : G (ls[i]?.getD 0) := by rw [getD_some hi]; exact hl.g _ (List.getElem_mem _)
        obtain ⟨ex, hx⟩ := rowC_pre (cl := cl) (nx := nx) (s := ls[i]?.getD 0) (ls := ls)
        have ih := numRunC_at h f (i + 1) (rowC cl nx (ls[i]?.getD 0) ls).1 (acc ++ [ac (ls[i]?.getD 0)]) (nxs ++ [(rowC cl nx (ls[i]?.getD 0) ls).2]) (GoodL.rows h hs hl 9 (by omega)) (by omega) (by rw [hx]; simp; omega)
        have eL : numL cl nx (f + 1) i ls = numL cl nx f (i + 1) (rowC cl nx (ls[i]?.getD 0) ls).1 := by rw [numL, if_pos hi]
        rw [eL]
        obtain ⟨ex2, hx2⟩ := numL_pre (cl := cl) (nx := nx) f (i + 1) (rowC cl nx (ls[i]?.getD 0) ls).1
        have hrow := rowC_at (cl := cl) (nx := nx) (s := ls[i]?.getD 0) (ls := ls) 9
        have hlen : i < (numL cl nx f (i + 1) (rowC cl nx (ls[i]?.getD 0) ls).1).length := by rw [hx2, hx]; simp; omega
        have hget : (numL cl nx f (i + 1) (rowC cl nx (ls[i]?.getD 0) ls).1)[i] = ls[i]?.getD 0 := by
          have h1 : (numL cl nx f (i + 1) (rowC cl nx (ls[i]?.getD 0) ls).1)[i]? = ls[i]? := by
            rw [hx2, hx, List.append_assoc, List.getElem?_append_left hi]
          have h2 := List.getElem?_eq_getElem hlen
          rw [h1] at h2
          exact (congrArg (·.getD 0) h2).symm
        have hR : (rowC cl nx (ls[i]?.getD 0) ls).2 = numRow cl nx (numL cl nx f (i + 1) (rowC cl nx (ls[i]?.getD 0) ls).1) (ls[i]?.getD 0) := by
          rw [hx2]
          unfold numRow
          rw [show (rowC cl nx (ls[i]?.getD 0) ls).2 = _ from hrow.2]
          exact List.map_congr_left fun j hj => (numAt_app hrow.1 (List.mem_range.1 hj)).symm
        have hD : (numL cl nx f (i + 1) (rowC cl nx (ls[i]?.getD 0) ls).1).drop i = (ls[i]?.getD 0) :: (numL cl nx f (i + 1) (rowC cl nx (ls[i]?.getD 0) ls).1).drop (i + 1) := by
          rw [List.drop_eq_getElem_cons hlen, hget]
        refine ⟨?_, fun s hs' => ?_⟩
        · rw [numRunC, if_pos hi, ih.1, hD, hR]
          simp
        · rw [hD] at hs'
          rcases List.mem_cons.1 hs' with rfl | hs'
          · rw [hx2]; exact Has.app hrow.1
          · exact ih.2 s hs'
    · have eL : numL cl nx f i ls = ls := by
        cases f with
        | zero => rfl
        | succ f => rw [numL, if_neg hi]
      rw [eL, numRunC_done hi, List.drop_eq_nil_of_le (by omega)]
      exact ⟨by simp, fun s hs => by simp at hs⟩
end
end Go.Proofs.YtmnhpbbapkcdjaaGreat

/- Walks: minimization, the implementation. -/
namespace Go.Proofs.YtmnhpbbapkcdjaaGreat
open Go.RowKit

noncomputable def minI (a : Aut) : Aut := if (clsF a)[a.start.toNat]?.getD 0 < 0 then nothingAut else resAut (numbR (cNx a (clsF a)) (cAc a (clsF a)) a.n ((clsF a)[a.start.toNat]?.getD 0))

/-- an automaton of the call's own, and a block that holds its cells -/
structure Built (B : Nat) (W w' : World) (g5 : Nat) (x : Aut) (A3 : Option Addr) (n3 c3 : Nat) (A4 : Option Addr) (n4 c4 : Nat) : Prop where
  blk : Blk w' g5 31 #[.int .i64 x.start, .slice A3 n3 c3, .slice A4 n4 c4]
  ge : B ≤ g5
  aut : AutV w' (B ≤ ·) (.agg #[.int .i64 x.start, .slice A3 n3 c3, .slice A4 n4 c4]) x
  below : Below B W w'
theorem Built.one {B B' : Nat} {W w' : World} {x : Aut} {A3 A4 : Option Addr} {n3 c3 n4 c4 : Nat} (hA : AutV w' (B' ≤ ·) (.agg #[.int .i64 x.start, .slice A3 n3 c3, .slice A4 n4 c4]) x) (hb : Below B W w') (hB : B ≤ B') (hw : B ≤ w'.heap.size) :
    Built B W (w'.alloc (.cells #[.int .i64 x.start, .slice A3 n3 c3, .slice A4 n4 c4] 31)) w'.heap.size x A3 n3 c3 A4 n4 c4 :=
  ⟨Blk.new _ _ _, hw, (hA.weak (fun b hb _ => Nat.le_trans hB hb)).alloc _, hb.alloc hw _⟩
theorem Built.two {B : Nat} {B' : Nat} {W w' : World} {x : Aut} {A3 A4 : Option Addr} {n3 c3 n4 c4 : Nat} {u0 u1 u2 : Value} (hZ : Blk w' B 31 #[u0, u1, u2]) (hA : AutV w' (B' ≤ ·) (.agg #[.int .i64 x.start, .slice A3 n3 c3, .slice A4 n4 c4]) x) (hb : Below B W w') (hB : B < B') :
    Built B W (((w'.setCell ⟨B, 0, none⟩ (.int .i64 x.start)).setCell ⟨B, 1, none⟩ (.slice A3 n3 c3)).setCell ⟨B, 2, none⟩ (.slice A4 n4 c4)) B x A3 n3 c3 A4 n4 c4 := by
  refine ⟨hZ.set3, Nat.le_refl _, ?_, ((hb.setCell (by simp) _).setCell (by simp) _).setCell (by simp) _⟩
  refine (hA.keep (w' := _) (by simp) (fun b hb _ => ?_)).weak (fun b hb _ => by have hb : B' ≤ b := hb; show B ≤ b; omega)
  have hb : B' ≤ b := hb
  rw [Below.heap_setCell _ _ _ _ (by simp; omega), Below.heap_setCell _ _ _ _ (by simp; omega), Below.heap_setCell _ _ _ _ (by simp; omega)]
theorem cell_set3 {w : World} {p : Addr} {B : Nat} {v : Value} (x y z : Value) (h : p.block ≠ B) (hc : w.cell? p = some v) : (((w.setCell ⟨B, 0, none⟩ x).setCell ⟨B, 1, none⟩ y).setCell ⟨B, 2, none⟩ z).cell? p = some v := by
  rw [World.cell?_setCell_other _ _ _ _ (fun e => h (by rw [← e])), World.cell?_setCell_other _ _ _ _ (fun e => h (by rw [← e])), World.cell?_setCell_other _ _ _ _ (fun e => h (by rw [← e]))]
  exact hc
set_option maxHeartbeats 1000000 in
set_option maxRecDepth 100000 in
theorem minimize_any (a : Aut) (v : Value) (w : World) (p : Nat → Prop) (h : AutV w p v a) (hf : a.Fits) (hn : a.n ≤ 1000) :
    Calls Tryz.prog 40 #[v] w fun e w' => AutRes w w' (minI a) e := by
  obtain ⟨A1, c1, A2, c2, rfl, h1, h2⟩ := h.fit hf
  have hst0 := hf.1
  have hst1 := hf.2.1
  have hpos := hf.pos
  have hP := (h.alloc (.cells #[.int .i64 a.start, .slice A1 a.n c1, .slice A2 a.n c2] 31)).alloc (.cells #[.int .i64 0, .slice none 0 0, .slice none 0 0] 31)
  have hB := (Blk.new w 31 #[.int .i64 a.start, .slice A1 a.n c1, .slice A2 a.n c2]).alloc (.cells #[.int .i64 0, .slice none 0 0, .slice none 0 0] 31)
  have hR : Blk ((w.alloc (.cells #[.int .i64 a.start, .slice A1 a.n c1, .slice A2 a.n c2] 31)).alloc (.cells #[.int .i64 0, .slice none 0 0, .slice none 0 0] 31)) (w.heap.size + 1) 31 #[.int .i64 0, .slice none 0 0, .slice none 0 0] := by
    have := Blk.new (w.alloc (.cells #[.int .i64 a.start, .slice A1 a.n c1, .slice A2 a.n c2] 31)) 31 #[.int .i64 0, .slice none 0 0, .slice none 0 0]
    rwa [size_alloc] at this
  have hW := below_alloc2 w (.cells #[.int .i64 a.start, .slice A1 a.n c1, .slice A2 a.n c2] 31) (.cells #[.int .i64 0, .slice none 0 0, .slice none 0 0] 31)
  go_enter Tryz.func40, Tryz.ntmps40
  go_wp2_with fail
  refine (classes_any a _ _ p hP hf hn).mono ?_; rintro e w1 ⟨v, rfl, hown, hb1⟩
  obtain ⟨g, cap, rfl, hbg, hlg⟩ := hown.form hpos
  have hB1 := (hB.below hb1 hB.lt).alloc (.cells #[.slice (some ⟨g, 0, none⟩) a.n cap] 24)
  have f0 := hB1.cell 0; have f1 := hB1.cell 1; have f2 := hB1.cell 2
  simp at f0 f1 f2
  have hR1 := (hR.below hb1 hR.lt).alloc (.cells #[.slice (some ⟨g, 0, none⟩) a.n cap] 24)
  have hP1 := (hP.below hb1).alloc (.cells #[.slice (some ⟨g, 0, none⟩) a.n cap] 24)
  have hB3 := Blk.new w1 24 #[.slice (some ⟨g, 0, none⟩) a.n cap]
  have hL1 : Sl (w1.alloc (.cells #[.slice (some ⟨g, 0, none⟩) a.n cap] 24)) (fun _ => True) 1 (some ⟨g, 0, none⟩) a.n (ints (clsF a)) := (Sl.of_own hown (fun _ _ => trivial)).alloc _
  obtain ⟨bl, ol, hel, _, hbl, hcl⟩ := hL1.int_at (k := a.start.toNat) (by omega)
  injection hel with hel; injection hel with hel1 hel2; subst hel1 hel2
  simp only [Nat.zero_add] at hcl
  have hbz : Below w.heap.size w (w1.alloc (.cells #[.slice (some ⟨g, 0, none⟩) a.n cap] 24)) := (hW.trans (hb1.mono (by simp; omega))).trans ((below_alloc w1 _).mono (by have := hb1.size; simp at this; omega))
  have hsz : w.heap.size + 1 + 1 ≤ w1.heap.size := by have := hb1.size; simp at this; omega
  clear hown hP hB hR hb1 hW
  have hmem := clsF_mem (a := a) (s := a.start.toNat) (by omega)
  by_cases hlv : (clsF a)[a.start.toNat]?.getD 0 < 0
  · have HT : Hid (minI a = nothingAut) := Lib.hid (by unfold minI; rw [if_pos hlv])
    generalize (clsF a)[a.start.toNat]?.getD 0 = s0 at *
    go_wp2_with fail
    refine (nothing_any _).mono ?_; rintro e w2 ⟨v1, rfl, hA, hb2⟩
    obtain ⟨A3, n3, c3, A4, n4, c4, hv1, _, _⟩ := id hA
    have hR2 := hR1.below hb2 hR1.lt
    have q0 := hR2.cell 0; have q1 := hR2.cell 1; have q2 := hR2.cell 2
    simp at q0 q1 q2
    have z0 := hR2.frozen 0; have z1 := hR2.frozen 1; have z2 := hR2.frozen 2
    have hbz2 := hbz.trans (hb2.mono (by simp; omega))
    have hsz2 : w.heap.size + 1 + 1 ≤ w2.heap.size := by have := hb2.size; simp at this; omega
    subst hv1
    go_wp2
    refine bodyPost_ret (v := .agg #[.int .i64 nothingAut.start, .slice A3 n3 c3, .slice A4 n4 c4]) (by simp [results, Tryz.results40, go_sem, q0, q1, q2]) rfl ?_
    rw [HT.out]
    exact AutRes.set3 hA (by simp; omega) hbz2 (by omega)
  · have HT : Hid (minI a = resAut (numbR (cNx a (clsF a)) (cAc a (clsF a)) a.n ((clsF a)[a.start.toNat]?.getD 0))) := Lib.hid (by unfold minI; rw [if_neg hlv])
    have hrs := clsF_rng hmem
    have hlv' : decide ((clsF a)[a.start.toNat]?.getD 0 < 0) = false := by simpa using hlv
    clear hlv
    generalize hsc : (clsF a)[a.start.toNat]?.getD 0 = s0 at *
    have hcll := clsF_len a
    have hrng := Lib.hid (fun x (h : x ∈ clsF a) => clsF_rng h)
    generalize clsF a = cl at *
    have hsz1 : (w1.alloc (.cells #[.slice (some ⟨g, 0, none⟩) a.n cap] 24)).heap.size = w1.heap.size + 1 := by simp
    have hB4 := hB1.alloc (.cells #[.func (.func 69) #[] #[.pointer (some ⟨w1.heap.size, 0, none⟩)]] 79)
    have hB34 := hB3.alloc (.cells #[.func (.func 69) #[] #[.pointer (some ⟨w1.heap.size, 0, none⟩)]] 79)
    have hBf : Blk ((w1.alloc (.cells #[.slice (some ⟨g, 0, none⟩) a.n cap] 24)).alloc (.cells #[.func (.func 69) #[] #[.pointer (some ⟨w1.heap.size, 0, none⟩)]] 79)) (w1.heap.size + 1) 79 #[.func (.func 69) #[] #[.pointer (some ⟨w1.heap.size, 0, none⟩)]] := by
      have := Blk.new (w1.alloc (.cells #[.slice (some ⟨g, 0, none⟩) a.n cap] 24)) 79 #[.func (.func 69) #[] #[.pointer (some ⟨w1.heap.size, 0, none⟩)]]
      rwa [hsz1] at this
    have hP4 := hP1.alloc (.cells #[.func (.func 69) #[] #[.pointer (some ⟨w1.heap.size, 0, none⟩)]] 79)
    have hL4 := hL1.alloc (.cells #[.func (.func 69) #[] #[.pointer (some ⟨w1.heap.size, 0, none⟩)]] 79)
    have hR4 := hR1.alloc (.cells #[.func (.func 69) #[] #[.pointer (some ⟨w1.heap.size, 0, none⟩)]] 79)
    have hcl4 : ((w1.alloc (.cells #[.slice (some ⟨g, 0, none⟩) a.n cap] 24)).alloc (.cells #[.func (.func 69) #[] #[.pointer (some ⟨w1.heap.size, 0, none⟩)]] 79)).cell? ⟨g, a.start.toNat, none⟩ = some (.int .i64 s0) := (Below.cell (below_alloc _ _) (p := ⟨g, a.start.toNat, none⟩) (by simp; omega)).trans hcl
    have g0 : ((w1.alloc (.cells #[.slice (some ⟨g, 0, none⟩) a.n cap] 24)).alloc (.cells #[.func (.func 69) #[] #[.pointer (some ⟨w1.heap.size, 0, none⟩)]] 79)).cell? ⟨w.heap.size, 0, none⟩ = some (.int .i64 a.start) := hB4.cell 0
    have t0 : ((w1.alloc (.cells #[.slice (some ⟨g, 0, none⟩) a.n cap] 24)).alloc (.cells #[.func (.func 69) #[] #[.pointer (some ⟨w1.heap.size, 0, none⟩)]] 79)).cell? ⟨w1.heap.size, 0, none⟩ = some (.slice (some ⟨g, 0, none⟩) a.n cap) := hB34.cell 0
    have hbz4 : Below w.heap.size w ((w1.alloc (.cells #[.slice (some ⟨g, 0, none⟩) a.n cap] 24)).alloc (.cells #[.func (.func 69) #[] #[.pointer (some ⟨w1.heap.size, 0, none⟩)]] 79)) := hbz.alloc (by simp; omega) _
    have hsz4 : ((w1.alloc (.cells #[.slice (some ⟨g, 0, none⟩) a.n cap] 24)).alloc (.cells #[.func (.func 69) #[] #[.pointer (some ⟨w1.heap.size, 0, none⟩)]] 79)).heap.size = w1.heap.size + 1 + 1 := by rw [size_alloc, size_alloc]
    have hwc : w.heap.size + 1 + 1 ≤ w1.heap.size := hsz
    have hnum : ∀ W' : World, Below (w1.heap.size + 1 + 1) ((w1.alloc (.cells #[.slice (some ⟨g, 0, none⟩) a.n cap] 24)).alloc (.cells #[.func (.func 69) #[] #[.pointer (some ⟨w1.heap.size, 0, none⟩)]] 79)) W' → Calls Tryz.prog 58 #[.int .i64 s0, .int .i64 a.n, .func (.func 71) #[] #[.pointer (some ⟨w.heap.size, 0, none⟩), .pointer (some ⟨w1.heap.size + 1, 0, none⟩)], .func (.func 72) #[] #[.pointer (some ⟨w.heap.size, 0, none⟩), .pointer (some ⟨w1.heap.size + 1, 0, none⟩), .pointer (some ⟨w1.heap.size, 0, none⟩)]] W' fun e w2 =>
        ∃ r A3 n3 c3 A4 n4 c4, e = .returned (.tuple #[.agg #[.int .i64 (resAut r).start, .slice A3 n3 c3, .slice A4 n4 c4], .bool r.isSome]) ∧ Hid (r = numbR (cNx a cl) (cAc a cl) a.n s0) ∧ AutV w2 (W'.heap.size ≤ ·) (.agg #[.int .i64 (resAut r).start, .slice A3 n3 c3, .slice A4 n4 c4]) (resAut r) ∧ Below W'.heap.size W' w2 ∧ Below (w1.heap.size + 1 + 1) ((w1.alloc (.cells #[.slice (some ⟨g, 0, none⟩) a.n cap] 24)).alloc (.cells #[.func (.func 69) #[] #[.pointer (some ⟨w1.heap.size, 0, none⟩)]] 79)) w2 := by
      intro W' hW'
      have hlg2 : W'.heap.size ≥ w1.heap.size + 1 + 1 := by have := hW'.size; omega
      have b4 := hB4.below hW' (by omega)
      have bf := hBf.below hW' (by omega)
      have b34 := hB34.below hW' (by omega)
      have p4 := hP4.keep hW'.size (fun b _ hb => hW'.block b (by omega))
      have l4 := hL4.keep hW'.size (fun b _ hb => hW'.block b (by omega))
      refine (numbered_any s0 a.n 71 72 #[] #[.pointer (some ⟨w.heap.size, 0, none⟩), .pointer (some ⟨w1.heap.size + 1, 0, none⟩)] #[] #[.pointer (some ⟨w.heap.size, 0, none⟩), .pointer (some ⟨w1.heap.size + 1, 0, none⟩), .pointer (some ⟨w1.heap.size, 0, none⟩)] (cAc a cl) (cNx a cl) (· ∈ cl) W' hn (fun args w => by kernel_rfl) (fun args w => by kernel_rfl) hmem (fun x h => wfI64 (by have := hrng.out x h; omega))
        (fun x k t hx hk h => ?_)
        (fun x w' hx hb => min2_any a cl _ _ _ _ _ _ _ _ x w' p _ (b4.below hb b4.lt) (bf.below hb bf.lt) (b34.below hb b34.lt) (p4.below hb) (l4.below hb (fun b _ h => h)) hx)
        (fun x k w' hx hk hb => min3_any a cl _ _ _ _ _ _ _ _ x k w' p _ (b4.below hb b4.lt) (bf.below hb bf.lt) (b34.below hb b34.lt) (p4.below hb) hf (l4.below hb (fun b _ h => h)) hx hk)).mono ?_
      · have hxi := (findI_mem x cl 0).2 hx
        have hxr := findI_range x cl 0
        have hr := (hf.2.2.2 (findI x cl 0).toNat (by omega)).2 k hk
        unfold cNx at h
        by_cases h1 : a.nx (findI x cl 0).toNat k < 0
        · rw [if_pos h1] at h; cases h
        · rw [if_neg h1] at h
          by_cases h2 : cl[(a.nx (findI x cl 0).toNat k).toNat]?.getD 0 < 0
          · rw [if_pos h2] at h; cases h
          · rw [if_neg h2] at h
            injection h with h
            subst h
            show _ ∈ cl
            rw [List.getElem?_eq_getElem (by omega)]
            exact List.getElem_mem _
      · rintro e w2 ⟨v1, rfl, hA, hb2⟩
        obtain ⟨A3, n3, c3, A4, n4, c4, hv1, _, _⟩ := id hA
        subst hv1
        exact ⟨_, A3, n3, c3, A4, n4, c4, rfl, Lib.hid rfl, hA, hb2, hW'.trans (hb2.mono (by omega))⟩
    have B1 : Below (w1.heap.size + 1 + 1) ((w1.alloc (.cells #[.slice (some ⟨g, 0, none⟩) a.n cap] 24)).alloc (.cells #[.func (.func 69) #[] #[.pointer (some ⟨w1.heap.size, 0, none⟩)]] 79)) ((w1.alloc (.cells #[.slice (some ⟨g, 0, none⟩) a.n cap] 24)).alloc (.cells #[.func (.func 69) #[] #[.pointer (some ⟨w1.heap.size, 0, none⟩)]] 79)).drew := (Below.refl _ _).drew
    have B2 : Below (w1.heap.size + 1 + 1) ((w1.alloc (.cells #[.slice (some ⟨g, 0, none⟩) a.n cap] 24)).alloc (.cells #[.func (.func 69) #[] #[.pointer (some ⟨w1.heap.size, 0, none⟩)]] 79)) (((w1.alloc (.cells #[.slice (some ⟨g, 0, none⟩) a.n cap] 24)).alloc (.cells #[.func (.func 69) #[] #[.pointer (some ⟨w1.heap.size, 0, none⟩)]] 79)).alloc (.cells #[.int .i64 0, .slice none 0 0, .slice none 0 0] 31)).drew := ((Below.refl _ _).alloc (by omega) _).drew
    have hZ : Blk (((w1.alloc (.cells #[.slice (some ⟨g, 0, none⟩) a.n cap] 24)).alloc (.cells #[.func (.func 69) #[] #[.pointer (some ⟨w1.heap.size, 0, none⟩)]] 79)).alloc (.cells #[.int .i64 0, .slice none 0 0, .slice none 0 0] 31)).drew (w1.heap.size + 1 + 1) 31 #[.int .i64 0, .slice none 0 0, .slice none 0 0] := by
      have := Blk.new ((w1.alloc (.cells #[.slice (some ⟨g, 0, none⟩) a.n cap] 24)).alloc (.cells #[.func (.func 69) #[] #[.pointer (some ⟨w1.heap.size, 0, none⟩)]] 79)) 31 #[.int .i64 0, .slice none 0 0, .slice none 0 0]
      rwa [hsz4] at this
    have HN := Lib.hid hnum; clear hnum
    have hgl : g < w1.heap.size := hlg
    go_upto_region 5 with fail
    go_cut [5, 6, 17, 27, 28, 29] (fun v5 _ _ _ _ _ wx => ∃ g5 r A3 n3 c3 A4 n4 c4, v5 = .pointer (some ⟨g5, 0, none⟩) ∧ Hid (r = numbR (cNx a cl) (cAc a cl) a.n s0) ∧ Built (w1.heap.size + 1 + 1) ((w1.alloc (.cells #[.slice (some ⟨g, 0, none⟩) a.n cap] 24)).alloc (.cells #[.func (.func 69) #[] #[.pointer (some ⟨w1.heap.size, 0, none⟩)]] 79)) wx g5 (resAut r) A3 n3 c3 A4 n4 c4)
    case first =>
      go_region_held3 (fun w' => w'.cell? ⟨w.heap.size, 0, none⟩ = some (.int .i64 a.start) ∧ w'.cell? ⟨w1.heap.size, 0, none⟩ = some (.slice (some ⟨g, 0, none⟩) a.n cap) ∧ w'.cell? ⟨g, a.start.toNat, none⟩ = some (.int .i64 s0))
        (first | go_keep | exact ⟨d0, d1, d2⟩ | exact ⟨cell_set3 _ _ _ (by simp only [ne_eq]; omega) d0, cell_set3 _ _ _ (by simp only [ne_eq]; omega) d1, cell_set3 _ _ _ (by simp only [ne_eq]; omega) d2⟩)
        (first
          | (go_at_call 58; refine (HN.out _ B1).mono ?_; rintro e w2 ⟨r, A3, n3, c3, A4, n4, c4, rfl, HR, hA, hb2, hbb⟩; have d0 := (hbb.cell (p := ⟨w.heap.size, 0, none⟩) (by show w.heap.size < w1.heap.size + 1 + 1; omega)).trans g0; have d1 := (hbb.cell (p := ⟨w1.heap.size, 0, none⟩) (by show w1.heap.size < w1.heap.size + 1 + 1; omega)).trans t0; have d2 := (hbb.cell (p := ⟨g, a.start.toNat, none⟩) (by show g < w1.heap.size + 1 + 1; omega)).trans hcl4)
          | (go_at_call 58; refine (HN.out _ B2).mono ?_; rintro e w2 ⟨r, A3, n3, c3, A4, n4, c4, rfl, HR, hA, hb2, hbb⟩; have d0 := (hbb.cell (p := ⟨w.heap.size, 0, none⟩) (by show w.heap.size < w1.heap.size + 1 + 1; omega)).trans g0; have d1 := (hbb.cell (p := ⟨w1.heap.size, 0, none⟩) (by show w1.heap.size < w1.heap.size + 1 + 1; omega)).trans t0; have d2 := (hbb.cell (p := ⟨g, a.start.toNat, none⟩) (by show g < w1.heap.size + 1 + 1; omega)).trans hcl4; have hZ2 := hZ.below hb2 hZ.lt; have o0 := hZ2.cell 0; have o1 := hZ2.cell 1; have o2 := hZ2.cell 2; have y0 := hZ2.frozen 0; have y1 := hZ2.frozen 1; have y2 := hZ2.frozen 2))
      all_goals
        go_wp2_with fail
        go_meet
        first
          | exact ⟨_, r, A3, n3, c3, A4, n4, c4, rfl, HR, Built.two hZ2 hA hbb (by rw [show ((((w1.alloc (.cells #[.slice (some ⟨g, 0, none⟩) a.n cap] 24)).alloc (.cells #[.func (.func 69) #[] #[.pointer (some ⟨w1.heap.size, 0, none⟩)]] 79)).alloc (.cells #[.int .i64 0, .slice none 0 0, .slice none 0 0] 31)).drew.heap.size) = ((w1.alloc (.cells #[.slice (some ⟨g, 0, none⟩) a.n cap] 24)).alloc (.cells #[.func (.func 69) #[] #[.pointer (some ⟨w1.heap.size, 0, none⟩)]] 79)).heap.size + 1 from by simp, hsz4]; omega)⟩
          | exact ⟨_, r, A3, n3, c3, A4, n4, c4, rfl, HR, Built.one hA hbb (by rw [show (((w1.alloc (.cells #[.slice (some ⟨g, 0, none⟩) a.n cap] 24)).alloc (.cells #[.func (.func 69) #[] #[.pointer (some ⟨w1.heap.size, 0, none⟩)]] 79)).drew.heap.size) = ((w1.alloc (.cells #[.slice (some ⟨g, 0, none⟩) a.n cap] 24)).alloc (.cells #[.func (.func 69) #[] #[.pointer (some ⟨w1.heap.size, 0, none⟩)]] 79)).heap.size from rfl, hsz4]; omega) (by have := hbb.size; omega)⟩
    case rest =>
      obtain ⟨g5, r, A3, n3, c3, A4, n4, c4, rfl, HR, hBt⟩ := hcut
      have hR5 := hR4.below hBt.below (by omega)
      have q0 := hR5.cell 0; have q1 := hR5.cell 1; have q2 := hR5.cell 2
      have s0' := hBt.blk.cell 0; have s1' := hBt.blk.cell 1; have s2' := hBt.blk.cell 2
      simp at q0 q1 q2 s0' s1' s2'
      have z0 := hR5.frozen 0; have z1 := hR5.frozen 1; have z2 := hR5.frozen 2
      have hbz5 : Below w.heap.size w wc := hbz4.trans (hBt.below.mono (by omega))
      have hA := hBt.aut
      clear hBt hR5 hR4
      go_wp2
      refine bodyPost_ret (v := .agg #[.int .i64 (resAut r).start, .slice A3 n3 c3, .slice A4 n4 c4]) (by simp [results, Tryz.results40, go_sem, q0, q1, q2]) rfl ?_
      rw [HT.out, ← HR.out]
      exact AutRes.set3 hA (by omega) hbz5 (by omega)
end Go.Proofs.YtmnhpbbapkcdjaaGreat

/- Walks: the classes of states, the specification. -/
namespace Go.Proofs.YtmnhpbbapkcdjaaGreat
open Go.RowKit

set_option maxHeartbeats 1000000 in
set_option maxRecDepth 100000 in
theorem l12Key_any (a : Aut) (v : Value) (cl : List Int) (s : Nat) (C : Option Addr) (cC : Nat) (w : World) (p q : Nat → Prop) (h : AutV w p v a) (hf : a.Fits) (hC : Sl w q 1 C a.n (ints cl)) (hn : a.n ≤ 1000) (hs : s < a.n) :
    Calls Tryz.prog 90 #[v, .slice C a.n cC, .int .i64 s] w fun e w' => OwnI w w' 10 (keyC a cl s) e := by
  obtain ⟨A1, c1, A2, c2, rfl, h1, h2⟩ := h.fit hf
  obtain ⟨W1, hW1⟩ : ∃ W1, W1 = w.alloc (.cells #[.int .i64 a.start, .slice A1 a.n c1, .slice A2 a.n c2] 31) := ⟨_, rfl⟩
  have hA2 : Sls W1 (· < w.heap.size) A2 a.n a.next := by rw [hW1]; exact (h2.weak (fun _ _ h => h)).alloc _
  have hC1 : Sl W1 (· < w.heap.size) 1 C a.n (ints cl) := by rw [hW1]; exact (hC.weak (fun _ _ h => h)).alloc _
  have hPB : Blk W1 w.heap.size 31 #[.int .i64 a.start, .slice A1 a.n c1, .slice A2 a.n c2] := by rw [hW1]; exact Blk.new _ _ _
  have hW : Below w.heap.size w W1 := by rw [hW1]; exact below_alloc _ _
  have hs1 : W1.heap.size = w.heap.size + 1 := by rw [hW1]; simp
  obtain ⟨bC, oC, rfl, _, _, hcC⟩ := hC1.int_at hs
  obtain ⟨bN, oN, bR, oR, cR, rfl, pN, sN, pR, sR, hcN0, hcR0⟩ := hA2.row9 hf hs hs
  have HCR := Lib.hid hcR0; clear hcR0
  have hI0 : (W1.alloc (.cells #[.int .i64 (cl[s]?.getD 0)] 3)).ownsRow (w.heap.size + 1) 3 1 (.slice (some ⟨w.heap.size + 1, 0, none⟩) (0 + 1) 1) (0 + 1) (ints (keyTo a cl s 0)) := by
    have := World.ownsRow_lit (base := w.heap.size + 1) (size := 1) (e := 3) W1 #[.int .i64 (cl[s]?.getD 0)] 1 (by omega) (by decide) rfl
    rw [hs1] at this
    exact this
  have hb0 : Below (w.heap.size + 1) W1 (W1.alloc (.cells #[.int .i64 (cl[s]?.getD 0)] 3)) := (Below.refl _ _).alloc (by omega) _
  rw [hW1] at hcC hI0 hb0
  go_enter Tryz.func90, Tryz.ntmps90
  go_wp2_with fail
  go_loopw [7, 8] (fun v7 jv wr => ∃ j g c, j ≤ 9 ∧ jv = .int .i64 (j : Nat) ∧ v7 = .slice (some ⟨g, 0, none⟩) (j + 1) c ∧ wr.ownsRow (w.heap.size + 1) 3 1 v7 (j + 1) (ints (keyTo a cl s j)) ∧ Below (w.heap.size + 1) W1 wr) (fun _ jv _ => 9 - (intOf jv).toNat)
  case atStart => exact ⟨0, _, _, by omega, rfl, rfl, by simpa using hI0, by rw [hW1]; simpa using hb0⟩
  case round =>
    clear hI0 hb0 hcC
    obtain ⟨j, g, c, hj, rfl, rfl, hI, hb⟩ := hrel
    have hbs : w.heap.size + 1 ≤ wr.heap.size := by have := hb.size; omega
    by_cases hj9 : j < 9
    · have HKS := Lib.hid (keyTo_snoc a cl s j)
      have hPw := hPB.below hb (by omega)
      have f2 := hPw.cell 2
      simp at f2
      have hcN := (hb.cell (p := ⟨bN, oN + s, none⟩) (by simp; omega)).trans hcN0
      have hcx := (hb.cell (p := ⟨bR, oR + j, none⟩) (by simp; omega)).trans (HCR.out j hj9)
      obtain ⟨hx1, hx2⟩ := (hf.2.2.2 s hs).2 j hj9
      by_cases hx0 : a.nx s j < 0
      · have HV := Lib.hid (keyV_neg (cl := cl) hx0)
        have hx0' : decide (a.nx s j < 0) = true := by simpa using hx0
        go_wp2_with (at_builtin; refine wpList_app1 elInt rfl (.tmp 29) (.tmp 30) rfl (w.heap.size + 1) _ (j + 1) _ rfl hI #[.int .i64 (-1)] _ rfl (by simp) rfl (by simp [Value.oneCell']) (by omega) (by omega) hbs ?_; intro g4 c4 w4 ho4 hg4 _ _ _; have hb4 := hb.grown hg4 (by omega) (own_ge hI))
        go_roundw
        case rel => exact ⟨j + 1, g4, c4, by omega, by go_num, rfl, by rw [HKS.out, HV.out, ← ints_snoc]; exact ho4, hb4⟩
        case measure => simp [intOf]; omega
      · have HV := Lib.hid (keyV_pos (cl := cl) hx0)
        have hx0' : decide (a.nx s j < 0) = false := by simpa using hx0
        have hCw2 : Sl wr (· < w.heap.size) 1 (some ⟨bC, oC, none⟩) a.n (ints cl) := hC1.keep hb.size (fun b hb2 _ => hb.block b (by omega))
        obtain ⟨b2, o2, hel, _, _, hcc⟩ := hCw2.int_at (k := (a.nx s j).toNat) (by omega)
        injection hel with hel; injection hel with hel1 hel2; subst hel1 hel2
        have hx0'' : 0 ≤ a.nx s j := by omega
        clear hx0 hx1
        generalize a.nx s j = x at *
        generalize cl[x.toNat]?.getD 0 = y at *
        go_wp2_with (at_builtin; refine wpList_app1 elInt rfl (.tmp 32) (.tmp 37) rfl (w.heap.size + 1) _ (j + 1) _ rfl hI #[.int .i64 y] _ rfl (by simp) rfl (by simp [Value.oneCell']) (by omega) (by omega) hbs ?_; intro g4 c4 w4 ho4 hg4 _ _ _; have hb4 := hb.grown hg4 (by omega) (own_ge hI))
        go_roundw
        case rel => exact ⟨j + 1, g4, c4, by omega, by go_num, rfl, by rw [HKS.out, HV.out, ← ints_snoc]; exact ho4, hb4⟩
        case measure => simp [intOf]; omega
    · obtain rfl : j = 9 := by omega
      have HK : Hid (keyC a cl s = keyTo a cl s 9) := Lib.hid rfl
      go_wp2
      go_ret
      exact ⟨_, rfl, by rw [HK.out]; exact hI.mono (by omega), hW.trans (hb.mono (by omega))⟩
end Go.Proofs.YtmnhpbbapkcdjaaGreat
