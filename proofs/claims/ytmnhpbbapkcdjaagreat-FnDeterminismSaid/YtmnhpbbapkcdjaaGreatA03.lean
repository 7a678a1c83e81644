/- Rows of integers of the call's own, all in blocks of their own; states that are numbered as they are found (plain); What the numbering's loops keep in memory: the automaton that is being built; Expressions in memory. Walks: l8Copy, l8Join, l8Leaf, LetterExpr. No condition. -/
import Derived.Test.YtmnhpbbapkcdjaaGreatA02
import Derived.Deep.Onto

/- Rows of integers of the call's own, all in blocks of their own; states that are numbered as they are found (plain). -/
namespace Go.Proofs.YtmnhpbbapkcdjaaGreat
open Go.RowKit

/-- rows of integers, each in a block of its own -/
structure IRows (w : World) (base : Nat) (L : List (Value × List Int)) : Prop where
  own : ∀ p ∈ L, w.ownsRow base 3 1 p.1 p.2.length (ints p.2) ∧ p.1.ownBlock ≠ none
  apart : L.Pairwise fun p q => p.1.ownBlock ≠ q.1.ownBlock
section
variable {w w' : World} {base : Nat} {L L' : List (Value × List Int)} {v v' : Value} {xs : List Int}
theorem IRows.nil_ : IRows w base [] := ⟨(fun p h => by cases h), List.Pairwise.nil⟩
theorem IRows.head (h : IRows w base ((v, xs) :: L)) : w.ownsRow base 3 1 v xs.length (ints xs) := (h.own _ List.mem_cons_self).1
theorem IRows.tail (h : IRows w base ((v, xs) :: L)) : IRows w base L := ⟨fun p hp => h.own p (List.mem_cons_of_mem _ hp), (List.pairwise_cons.1 h.apart).2⟩
theorem IRows.perm (h : IRows w base L) (hp : L.Perm L') : IRows w base L' := ⟨fun p hm => h.own p (hp.mem_iff.2 hm), (hp.pairwise_iff (fun h => Ne.symm h)).1 h.apart⟩
theorem IRows.keep (h : IRows w base L) {r : Option Nat} (hg : w.grownBy w' r) (hr : ∀ p ∈ L, p.1.ownBlock ≠ r) : IRows w' base L :=
  ⟨fun p hp => ⟨(h.own p hp).1.kept hg (.inr (hr p hp)), (h.own p hp).2⟩, h.apart⟩
theorem IRows.below (h : IRows w base L) (hb : Below w.heap.size w w') : IRows w' base L :=
  ⟨fun p hp => ⟨(h.own p hp).1.kept (row := none) ⟨hb.os, hb.tape, hb.output, hb.size, fun k hk _ => hb.block k hk⟩ (.inr (h.own p hp).2), (h.own p hp).2⟩, h.apart⟩
theorem IRows.alloc (h : IRows w base L) (o : Obj) : IRows (w.alloc o) base L := h.below (below_alloc w o)
theorem IRows.far (h : IRows w base L) {e : TypeId} {size n base' : Nat} {ys : List Value} (ho : w.ownsRow base' e size v n ys) (hg : w.grownBy w' v.ownBlock) (hne : 3 ≠ e) : IRows w' base L := by
  refine h.keep hg fun p hp => ?_
  rcases own_ne (h.own p hp).1 ho hne with h1 | h1
  · exact absurd h1 (h.own p hp).2
  · exact h1
theorem IRows.farBlk (h : IRows w base L) {g : Nat} {t : TypeId} {cs : Array Value} (hB : Blk w g t cs) (hg : w.grownBy w' (some g)) (hne : 3 ≠ t) : IRows w' base L :=
  h.keep hg fun p hp he => own_blk_ne (h.own p hp).1 hB hne he.symm
theorem IRows.farMap (h : IRows w base L) {g : Nat} {es : Array _} {c : Nat} (hB : w.heap[g]? = some (.map es c)) (hg : w.grownBy w' (some g)) : IRows w' base L := by
  refine h.keep hg fun p hp he => ?_
  rcases (h.own p hp).1.2 with ⟨hv, _⟩ | ⟨g', cap, cur, hv, _, hh, _⟩
  · rw [hv] at he; simp [Value.ownBlock] at he
  · rw [hv] at he
    simp only [Value.ownBlock, Option.some.injEq] at he
    subst he
    rw [hB] at hh; cases hh
theorem IRows.app (h : IRows w base ((v, xs) :: L)) {ys : List Int} (ho : w'.ownsRow base 3 1 v' ys.length (ints ys)) (hg : w.grownBy w' v.ownBlock) (hn : v'.ownBlock ≠ none) (hb : v'.ownBlock = v.ownBlock ∨ ∀ k, v'.ownBlock = some k → w.heap.size ≤ k) : IRows w' base ((v', ys) :: L) := by
  have hap := List.pairwise_cons.1 h.apart
  have ht : IRows w' base L := h.tail.keep hg fun p hp => (hap.1 p hp).symm
  refine ⟨fun p hp => ?_, List.pairwise_cons.2 ⟨fun p hp => ?_, ht.apart⟩⟩
  · rcases List.mem_cons.1 hp with rfl | hp
    · exact ⟨ho, hn⟩
    · exact ht.own p hp
  · rcases hb with hb | hb
    · show v'.ownBlock ≠ _; rw [hb]; exact hap.1 p hp
    · intro he
      cases hk : v'.ownBlock with
      | none => exact hn hk
      | some k =>
        have h1 := hb k hk
        have h2 := ((h.own p (List.mem_cons_of_mem _ hp)).1.lt k (by rw [← he]; exact hk)).2
        omega
theorem IRows.new (h : IRows w base L) {g : Nat} (hg : g = w.heap.size) (hb : base ≤ g) : IRows (w.alloc (.cells #[] 3)) base ((.slice (some ⟨g, 0, none⟩) 0 0, []) :: L) := by
  have h1 := h.alloc (.cells #[] 3)
  refine ⟨fun p hp => ?_, List.pairwise_cons.2 ⟨fun p hp he => ?_, h1.apart⟩⟩
  · rcases List.mem_cons.1 hp with rfl | hp
    · exact ⟨own0 hg hb, by simp [Value.ownBlock]⟩
    · exact h1.own p hp
  · have := ((h.own p hp).1.lt g (by rw [← he]; rfl)).2
    omega
theorem IRows.one {u : Int} (h : IRows w base L) {g : Nat} (hg : g = w.heap.size) (hb : base ≤ g) : IRows (w.alloc (.cells #[.int .i64 u] 3)) base ((.slice (some ⟨g, 0, none⟩) 1 1, [u]) :: L) := by
  have h1 := h.alloc (.cells #[.int .i64 u] 3)
  refine ⟨fun p hp => ?_, List.pairwise_cons.2 ⟨fun p hp he => ?_, h1.apart⟩⟩
  · rcases List.mem_cons.1 hp with rfl | hp
    · subst hg
      exact ⟨World.ownsRow_lit (base := base) (size := 1) w #[.int .i64 u] 1 hb (by decide) rfl, by simp [Value.ownBlock]⟩
    · exact h1.own p hp
  · have := ((h.own p hp).1.lt g (by rw [← he]; rfl)).2
    omega
end

theorem IRows.appList {w w' : World} {base g cap n : Nat} {L : List (Value × List Int)} {v : Value} {xs : List Int} {u : Int} (h : IRows w base ((v, xs) :: L)) (hn : n = xs.length) (ho : w'.ownsRow base 3 1 (.slice (some ⟨g, 0, none⟩) (n + 1) cap) (n + 1) (ints xs ++ [.int .i64 u])) (hg : w.grownBy w' v.ownBlock)
    (hb : v.ownBlock = some g ∨ w.heap.size < g) : IRows w' base ((.slice (some ⟨g, 0, none⟩) (n + 1) cap, xs ++ [u]) :: L) := by
  subst hn
  refine h.app (ys := xs ++ [u]) ?_ hg (by simp [Value.ownBlock]) ?_
  · rw [ints_snoc] at ho
    simpa using ho
  · rcases hb with hb | hb
    · exact .inl (by rw [hb]; rfl)
    · right; intro k hk; simp only [Value.ownBlock, Option.some.injEq] at hk; omega
theorem IRows.appRow {w w' : World} {base g cap n : Nat} {q : Value × List Int} {L : List (Value × List Int)} {v : Value} {xs : List Int} {u : Int} (h : IRows w base (q :: (v, xs) :: L)) (hn : n = xs.length) (ho : w'.ownsRow base 3 1 (.slice (some ⟨g, 0, none⟩) (n + 1) cap) (n + 1) (ints xs ++ [.int .i64 u])) (hg : w.grownBy w' v.ownBlock)
    (hb : v.ownBlock = some g ∨ w.heap.size < g) : IRows w' base (q :: (.slice (some ⟨g, 0, none⟩) (n + 1) cap, xs ++ [u]) :: L) :=
  ((h.perm (List.Perm.swap _ _ _)).appList hn ho hg hb).perm (List.Perm.swap _ _ _)
theorem perm3 {α : Type} (a b c : α) (L : List α) : (a :: b :: c :: L).Perm (c :: a :: b :: L) := ((List.Perm.swap c b L).cons a).trans (List.Perm.swap c a _)
theorem IRows.app3 {w w' : World} {base g cap n : Nat} {q q2 : Value × List Int} {L : List (Value × List Int)} {v : Value} {xs : List Int} {u : Int} (h : IRows w base (q :: q2 :: (v, xs) :: L)) (hn : n = xs.length) (ho : w'.ownsRow base 3 1 (.slice (some ⟨g, 0, none⟩) (n + 1) cap) (n + 1) (ints xs ++ [.int .i64 u])) (hg : w.grownBy w' v.ownBlock)
    (hb : v.ownBlock = some g ∨ w.heap.size < g) : IRows w' base (q :: q2 :: (.slice (some ⟨g, 0, none⟩) (n + 1) cap, xs ++ [u]) :: L) :=
  ((h.perm (perm3 _ _ _ _)).appList hn ho hg hb).perm (perm3 _ _ _ _).symm
theorem IRows.third {w : World} {base : Nat} {q q2 : Value × List Int} {L : List (Value × List Int)} {v : Value} {xs : List Int} (h : IRows w base (q :: q2 :: (v, xs) :: L)) : w.ownsRow base 3 1 v xs.length (ints xs) := h.tail.tail.head
theorem IRows.drewN {w : World} {base : Nat} {L : List (Value × List Int)} (h : IRows w base L) (d : Nat) : IRows (w.drewN d) base L := ⟨h.own, h.apart⟩
theorem IRows.snd {w : World} {base : Nat} {q : Value × List Int} {L : List (Value × List Int)} {v : Value} {xs : List Int} (h : IRows w base (q :: (v, xs) :: L)) : w.ownsRow base 3 1 v xs.length (ints xs) := h.tail.head
theorem IRows.drew {w : World} {base : Nat} {L : List (Value × List Int)} (h : IRows w base L) : IRows w.drew base L := ⟨h.own, h.apart⟩

/-- first index of x from k on, or -1 -/
def findI (x : Int) : List Int → Nat → Int
  | [], _ => -1
  | y :: ys, k => if y = x then k else findI x ys (k + 1)
theorem findI_step (x : Int) (xs : List Int) (k : Nat) (hk : k < xs.length) : findI x (xs.drop k) k = if xs[k]?.getD 0 = x then (k : Int) else findI x (xs.drop (k+1)) (k+1) := by
  rw [List.drop_eq_getElem_cons hk, List.getElem?_eq_getElem hk]; rfl
theorem findI_end (x : Int) (xs : List Int) (k : Nat) (hk : xs.length ≤ k) : findI x (xs.drop k) k = -1 := by rw [List.drop_eq_nil_of_le hk]; rfl
theorem findI_range (x : Int) : ∀ (xs : List Int) (k : Nat), findI x xs k = -1 ∨ (k : Int) ≤ findI x xs k ∧ findI x xs k < k + xs.length
  | [], k => .inl rfl
  | y :: ys, k => by
    unfold findI
    split
    · right; simp; omega
    · rcases findI_range x ys (k + 1) with h | h
      · exact .inl h
      · right; simp at h ⊢; omega
theorem findI_mem (x : Int) : ∀ (xs : List Int) (k : Nat), 0 ≤ findI x xs k ↔ x ∈ xs
  | [], k => by simp [findI]
  | y :: ys, k => by
    unfold findI
    by_cases h : y = x
    · simp [h]
    · rw [if_neg h, findI_mem x ys (k + 1)]
      simp [Ne.symm h]
theorem findI_get (x : Int) : ∀ (xs : List Int) (k : Nat), 0 ≤ findI x xs k → xs[(findI x xs k).toNat - k]? = some x
  | [], k, h => by simp [findI] at h
  | y :: ys, k, h => by
    unfold findI at h ⊢
    by_cases hy : y = x
    · subst hy; simp
    · rw [if_neg hy] at h ⊢
      have := findI_get x ys (k + 1) h
      rcases findI_range x ys (k + 1) with h1 | h1
      · omega
      · rw [show (findI x ys (k + 1)).toNat - k = ((findI x ys (k + 1)).toNat - (k + 1)) + 1 by omega]
        simpa using this

/-- one letter: the state behind it gets a number if it has none -/
def rowStep (nx : Int → Nat → Option Int) (s : Int) (st : List Int × List Int) (k : Nat) : List Int × List Int :=
  match nx s k with
  | none => (st.1, st.2 ++ [-1])
  | some t => if findI t st.1 0 < 0 then (st.1 ++ [t], st.2 ++ [(st.1.length : Int)]) else (st.1, st.2 ++ [findI t st.1 0])
def rowF (nx : Int → Nat → Option Int) (s : Int) (ls : List Int) : List Int × List Int := upto (rowStep nx s) (ls, []) 9
/-- the numbering from round i on -/
def numRun (nx : Int → Nat → Option Int) (ac : Int → Bool) (most : Nat) : Nat → Nat → List Int → List Bool → List (List Int) → Option (List Bool × List (List Int))
  | 0, _, _, _, _ => none
  | f + 1, i, ls, acc, nxs =>
    if i < ls.length then
      if most < (rowF nx (ls[i]?.getD 0) ls).1.length then none
      else numRun nx ac most f (i + 1) (rowF nx (ls[i]?.getD 0) ls).1 (acc ++ [ac (ls[i]?.getD 0)]) (nxs ++ [(rowF nx (ls[i]?.getD 0) ls).2])
    else some (acc, nxs)
def numbR (nx : Int → Nat → Option Int) (ac : Int → Bool) (most : Nat) (first : Int) : Option (List Bool × List (List Int)) := numRun nx ac most (most + 2) 0 [first] [] []
def resAut : Option (List Bool × List (List Int)) → Aut
  | none => ⟨0, [], []⟩
  | some r => ⟨0, r.1, r.2⟩
theorem rowStep_len {nx : Int → Nat → Option Int} {s : Int} {st : List Int × List Int} {k : Nat} : (rowStep nx s st k).2.length = st.2.length + 1 ∧ st.1.length ≤ (rowStep nx s st k).1.length ∧ (rowStep nx s st k).1.length ≤ st.1.length + 1 := by
  unfold rowStep
  split
  · simp
  · (try dsimp only); split <;> simp
theorem upto_row_len {nx : Int → Nat → Option Int} {s : Int} {ls : List Int} : ∀ k, (upto (rowStep nx s) (ls, []) k).2.length = k ∧ ls.length ≤ (upto (rowStep nx s) (ls, []) k).1.length ∧ (upto (rowStep nx s) (ls, []) k).1.length ≤ ls.length + k
  | 0 => by simp [upto]
  | k + 1 => by
    have h := upto_row_len (nx := nx) (s := s) (ls := ls) k
    have h2 := rowStep_len (nx := nx) (s := s) (st := upto (rowStep nx s) (ls, []) k) (k := k)
    simp only [upto]
    exact ⟨by have := h2.1; omega, by have := h2.2.1; omega, by have := h2.2.2; omega⟩
theorem rowStep_pre {nx : Int → Nat → Option Int} {s : Int} {st : List Int × List Int} {k : Nat} : ∃ ex, (rowStep nx s st k).1 = st.1 ++ ex := by
  unfold rowStep
  split
  · exact ⟨[], by simp⟩
  · (try dsimp only); split
    · exact ⟨_, rfl⟩
    · exact ⟨[], by simp⟩
theorem upto_row_pre {nx : Int → Nat → Option Int} {s : Int} {ls : List Int} : ∀ k, ∃ ex, (upto (rowStep nx s) (ls, []) k).1 = ls ++ ex
  | 0 => ⟨[], by simp [upto]⟩
  | k + 1 => by
    obtain ⟨ex, h⟩ := upto_row_pre (nx := nx) (s := s) (ls := ls) k
    obtain ⟨ex2, h2⟩ := rowStep_pre (nx := nx) (s := s) (st := upto (rowStep nx s) (ls, []) k) (k := k)
    exact ⟨ex ++ ex2, by show (rowStep nx s (upto (rowStep nx s) (ls, []) k) k).1 = _; rw [h2, h, List.append_assoc]⟩
theorem upto_row_at {nx : Int → Nat → Option Int} {s : Int} {ls : List Int} {i : Nat} (hi : i < ls.length) (k : Nat) : (upto (rowStep nx s) (ls, []) k).1[i]?.getD 0 = ls[i]?.getD 0 := by
  obtain ⟨ex, h⟩ := upto_row_pre (nx := nx) (s := s) (ls := ls) k
  rw [h, List.getElem?_append_left hi]
theorem rowStep_none {nx : Int → Nat → Option Int} {s : Int} {st : List Int × List Int} {k : Nat} (h : nx s k = none) : rowStep nx s st k = (st.1, st.2 ++ [-1]) := by unfold rowStep; rw [h]
theorem rowStep_old {nx : Int → Nat → Option Int} {s t : Int} {st : List Int × List Int} {k : Nat} (h : nx s k = some t) (hf : ¬ findI t st.1 0 < 0) : rowStep nx s st k = (st.1, st.2 ++ [findI t st.1 0]) := by
  unfold rowStep; rw [h]; simp only [if_neg hf]
theorem rowStep_new {nx : Int → Nat → Option Int} {s t : Int} {st : List Int × List Int} {k : Nat} (h : nx s k = some t) (hf : findI t st.1 0 < 0) : rowStep nx s st k = (st.1 ++ [t], st.2 ++ [(st.1.length : Int)]) := by
  unfold rowStep; rw [h]; simp only [if_pos hf]
theorem numRun_done {nx : Int → Nat → Option Int} {ac : Int → Bool} {most f i : Nat} {ls : List Int} {acc : List Bool} {nxs : List (List Int)} (hf : 0 < f) (hi : ¬ i < ls.length) : numRun nx ac most f i ls acc nxs = some (acc, nxs) := by
  obtain ⟨g, rfl⟩ : ∃ g, f = g + 1 := ⟨f - 1, by omega⟩
  unfold numRun; rw [if_neg hi]
theorem numRun_fail {nx : Int → Nat → Option Int} {ac : Int → Bool} {most f i : Nat} {ls : List Int} {acc : List Bool} {nxs : List (List Int)} (hf : 0 < f) (hi : i < ls.length) (hm : most < (rowF nx (ls[i]?.getD 0) ls).1.length) : numRun nx ac most f i ls acc nxs = none := by
  obtain ⟨g, rfl⟩ : ∃ g, f = g + 1 := ⟨f - 1, by omega⟩
  unfold numRun; rw [if_pos hi, if_pos hm]
theorem numRun_next {nx : Int → Nat → Option Int} {ac : Int → Bool} {most f i : Nat} {ls : List Int} {acc : List Bool} {nxs : List (List Int)} (hf : 0 < f) (hi : i < ls.length) (hm : ¬ most < (rowF nx (ls[i]?.getD 0) ls).1.length) :
    numRun nx ac most f i ls acc nxs = numRun nx ac most (f - 1) (i + 1) (rowF nx (ls[i]?.getD 0) ls).1 (acc ++ [ac (ls[i]?.getD 0)]) (nxs ++ [(rowF nx (ls[i]?.getD 0) ls).2]) := by
  obtain ⟨g, rfl⟩ : ∃ g, f = g + 1 := ⟨f - 1, by omega⟩
  conv => lhs; unfold numRun
  rw [if_pos hi, if_neg hm]; rfl
end Go.Proofs.YtmnhpbbapkcdjaaGreat

/- What the numbering's loops keep in memory: the automaton that is being built. -/
namespace Go.Proofs.YtmnhpbbapkcdjaaGreat
open Go.RowKit

theorem elRow : El Tryz.prog 29 24 (.slice none 0 0) 1 24 := ⟨Tryz.underlying29, by kernel_rfl, rfl, by decide⟩
theorem own_map_ne {w : World} {base g size n : Nat} {e : TypeId} {v : Value} {xs : List Value} {es : Array _} {c : Nat} (h : w.ownsRow base e size v n xs) (hB : w.heap[g]? = some (.map es c)) : v.ownBlock = none ∨ v.ownBlock ≠ some g := by
  rcases h.2 with ⟨rfl, _⟩ | ⟨g', cap, cur, rfl, _, hh, _⟩
  · exact .inl rfl
  · right
    intro he
    simp only [Value.ownBlock, Option.some.injEq] at he
    subst he
    rw [hB] at hh; cases hh

structure NMo (w : World) (base : Nat) (acc : List Bool) (vs : List Value) (va vn : Value) (go : Nat) (wr : World) : Prop where
  acc : wr.ownsRow base 4 1 va acc.length (bools acc)
  next : wr.ownsRow base 24 1 vn vs.length vs
  out : Blk wr go 31 #[.int .i64 0, va, vn]
  hgo : base ≤ go
  below : Below base w wr
  size : base ≤ w.heap.size
section
variable {w wr w' : World} {base go : Nat} {acc : List Bool} {vs : List Value} {va vn : Value}
theorem NMo.keep (h : NMo w base acc vs va vn go wr) {r : Option Nat} (hg : wr.grownBy w' r) (h1 : va.ownBlock = none ∨ va.ownBlock ≠ r) (h2 : vn.ownBlock = none ∨ vn.ownBlock ≠ r) (h3 : some go ≠ r) (hr : ∀ k, r = some k → base ≤ k) : NMo w base acc vs va vn go w' :=
  ⟨h.acc.kept hg h1, h.next.kept hg h2, h.out.grown hg h3, h.hgo, h.below.grown hg (Nat.le_trans h.size h.below.size) hr, h.size⟩
theorem NMo.bel (h : NMo w base acc vs va vn go wr) (hb : Below wr.heap.size wr w') : NMo w base acc vs va vn go w' := by
  have hg : wr.grownBy w' none := ⟨hb.os, hb.tape, hb.output, hb.size, fun k hk _ => hb.block k hk⟩
  refine h.keep hg ?_ ?_ (by simp) (fun k hk => by cases hk)
  · cases va.ownBlock <;> simp
  · cases vn.ownBlock <;> simp
theorem NMo.alloc (h : NMo w base acc vs va vn go wr) (o : Obj) : NMo w base acc vs va vn go (wr.alloc o) := h.bel (below_alloc wr o)
theorem NMo.drew (h : NMo w base acc vs va vn go wr) : NMo w base acc vs va vn go wr.drew := ⟨h.acc, h.next, h.out, h.hgo, h.below.drew, h.size⟩
theorem NMo.drewN (h : NMo w base acc vs va vn go wr) (d : Nat) : NMo w base acc vs va vn go (wr.drewN d) := ⟨h.acc, h.next, h.out, h.hgo, below_drewN h.below d, h.size⟩
theorem NMo.farInt (h : NMo w base acc vs va vn go wr) {v : Value} {n : Nat} {xs : List Value} (ho : wr.ownsRow base 3 1 v n xs) (hg : wr.grownBy w' v.ownBlock) : NMo w base acc vs va vn go w' :=
  h.keep hg (own_ne h.acc ho (by decide)) (own_ne h.next ho (by decide)) (own_blk_ne ho h.out (by decide)) (own_ge ho)
theorem NMo.farMap (h : NMo w base acc vs va vn go wr) {g : Nat} {es : Array _} {c : Nat} (hB : wr.heap[g]? = some (.map es c)) (hg : wr.grownBy w' (some g)) (hb : base ≤ g) : NMo w base acc vs va vn go w' :=
  h.keep hg (own_map_ne h.acc hB) (own_map_ne h.next hB) (fun he => by injection he with he; subst he; have := h.out; unfold Blk at this; rw [hB] at this; cases this) (fun k hk => by injection hk with hk; omega)
/-- accept gets one more -/
theorem NMo.putAcc (h : NMo w base acc vs va vn go wr) {va' : Value} {b : Bool} (ho : w'.ownsRow base 4 1 va' (acc ++ [b]).length (bools (acc ++ [b]))) (hg : wr.grownBy w' va.ownBlock) :
    NMo w base (acc ++ [b]) vs va' vn go (w'.setCell ⟨go, 1, none⟩ va') := by
  have ho1 : Blk w' go 31 #[.int .i64 0, va, vn] := h.out.grown hg (own_blk_ne h.acc h.out (by decide))
  have hn1 := h.next.kept hg (own_ne h.next h.acc (by decide))
  have hs : w'.grownBy (w'.setCell ⟨go, 1, none⟩ va') (some go) := ⟨rfl, rfl, rfl, by simp, fun k hk hne => Below.heap_setCell w' _ _ k (fun e => hne (by rw [e]))⟩
  refine ⟨ho.kept hs (.inr (own_blk_ne ho ho1 (by decide)).symm), hn1.kept hs (.inr (own_blk_ne hn1 ho1 (by decide)).symm), ?_, h.hgo, ?_, h.size⟩
  · have := ho1.set_ 1 va'
    simpa using this
  · exact (h.below.grown hg (Nat.le_trans h.size h.below.size) (own_ge h.acc)).setCell (by simpa using h.hgo) _
theorem NMo.putNext (h : NMo w base acc vs va vn go wr) {vn' u : Value} (ho : w'.ownsRow base 24 1 vn' (vs ++ [u]).length (vs ++ [u])) (hg : wr.grownBy w' vn.ownBlock) :
    NMo w base acc (vs ++ [u]) va vn' go (w'.setCell ⟨go, 2, none⟩ vn') := by
  have ho1 : Blk w' go 31 #[.int .i64 0, va, vn] := h.out.grown hg (own_blk_ne h.next h.out (by decide))
  have hn1 := h.acc.kept hg (own_ne h.acc h.next (by decide))
  have hs : w'.grownBy (w'.setCell ⟨go, 2, none⟩ vn') (some go) := ⟨rfl, rfl, rfl, by simp, fun k hk hne => Below.heap_setCell w' _ _ k (fun e => hne (by rw [e]))⟩
  refine ⟨hn1.kept hs (.inr (own_blk_ne hn1 ho1 (by decide)).symm), ho.kept hs (.inr (own_blk_ne ho ho1 (by decide)).symm), ?_, h.hgo, ?_, h.size⟩
  · have := ho1.set_ 2 vn'
    simpa using this
  · exact (h.below.grown hg (Nat.le_trans h.size h.below.size) (own_ge h.next)).setCell (by simpa using h.hgo) _
theorem own_form {w : World} {base size n : Nat} {e : TypeId} {v : Value} {xs : List Value} (h : w.ownsRow base e size v n xs) : ∃ A c, v = .slice A n c := by
  rcases h.2 with ⟨rfl, rfl⟩ | ⟨g, cap, cur, rfl, _⟩
  · exact ⟨none, 0, rfl⟩
  · exact ⟨_, cap, rfl⟩
/-- the automaton that has been built -/
theorem NMo.aut (h : NMo w base acc vs va vn go wr) {fin : List (Value × List Int)} (hv : vs = fin.map Prod.fst) (hr : IRows wr base fin) :
    AutV wr (base ≤ ·) (.agg #[.int .i64 0, va, vn]) ⟨0, acc, fin.map Prod.snd⟩ := by
  obtain ⟨A1, c1, rfl⟩ := own_form h.acc
  obtain ⟨A2, c2, rfl⟩ := own_form h.next
  refine ⟨A1, _, c1, A2, _, c2, rfl, Sl.of_own h.acc (fun b hb => own_ge h.acc b hb), vs, Sl.of_own h.next (fun b hb => own_ge h.next b hb), by rw [hv]; simp, fun j r hj => ?_⟩
  rw [List.getElem?_map] at hj
  cases hp : fin[j]? with
  | none => rw [hp] at hj; cases hj
  | some q =>
    rw [hp] at hj
    simp only [Option.map_some, Option.some.injEq] at hj
    subst hj
    have hq := (hr.own q (List.mem_of_getElem? hp)).1
    obtain ⟨A', c', he⟩ := own_form hq
    refine ⟨A', c', by rw [hv, List.getElem?_map, hp]; simp [he], ?_⟩
    rw [he] at hq
    exact Sl.of_own hq (fun b hb => own_ge hq b hb)
end

theorem nm_start (W : World) (u : Int) : NMo W W.heap.size [] [] (.slice none 0 0) (.slice none 0 0) W.heap.size ((W.alloc (.cells #[.int .i64 0, .slice none 0 0, .slice none 0 0] 31)).alloc (.cells #[.int .i64 u] 3)) :=
  ⟨World.ownsRow_nil _ _ _ _, World.ownsRow_nil _ _ _ _, (Blk.new W _ _).alloc _, Nat.le_refl _, below_alloc2 _ _ _, Nat.le_refl _⟩

/-- an automaton whose slices all lie in blocks of its own, from base on -/
def AutO (w : World) (base : Nat) (v : Value) (a : Aut) : Prop :=
  ∃ va vn fin, v = .agg #[.int .i64 a.start, va, vn] ∧ w.ownsRow base 4 1 va a.acc.length (bools a.acc) ∧ w.ownsRow base 24 1 vn fin.length (fin.map Prod.fst) ∧ IRows w base fin ∧ a.next = fin.map Prod.snd
theorem AutO.aut {w : World} {base : Nat} {v : Value} {a : Aut} (h : AutO w base v a) : AutV w (base ≤ ·) v a := by
  obtain ⟨va, vn, fin, rfl, h1, h2, hr, hn⟩ := h
  obtain ⟨A1, c1, rfl⟩ := own_form h1
  obtain ⟨A2, c2, rfl⟩ := own_form h2
  refine ⟨A1, _, c1, A2, _, c2, rfl, Sl.of_own h1 (fun b hb => own_ge h1 b hb), fin.map Prod.fst, Sl.of_own h2 (fun b hb => own_ge h2 b hb), by rw [hn]; simp, fun j r hj => ?_⟩
  rw [hn, List.getElem?_map] at hj
  cases hp : fin[j]? with
  | none => rw [hp] at hj; cases hj
  | some q =>
    rw [hp] at hj
    simp only [Option.map_some, Option.some.injEq] at hj
    subst hj
    have hq := (hr.own q (List.mem_of_getElem? hp)).1
    obtain ⟨A', c', he⟩ := own_form hq
    refine ⟨A', c', by rw [List.getElem?_map, hp]; simp [he], ?_⟩
    rw [he] at hq
    exact Sl.of_own hq (fun b hb => own_ge hq b hb)
theorem NMo.autO {w wr : World} {base go : Nat} {acc : List Bool} {vs : List Value} {va vn : Value} (h : NMo w base acc vs va vn go wr) {fin : List (Value × List Int)} (hv : vs = fin.map Prod.fst) (hr : IRows wr base fin) : AutO wr base (.agg #[.int .i64 0, va, vn]) ⟨0, acc, fin.map Prod.snd⟩ :=
  ⟨va, vn, fin, rfl, h.acc, by have := h.next; rw [hv] at this; simpa using this, hr, rfl⟩
theorem AutO.none_ (w : World) (base : Nat) : AutO w base (.agg #[.int .i64 0, .slice none 0 0, .slice none 0 0]) ⟨0, [], []⟩ :=
  ⟨_, _, [], rfl, World.ownsRow_nil _ _ _ _, World.ownsRow_nil _ _ _ _, IRows.nil_, rfl⟩
/-- blocks from base on are as they were -/
theorem AutO.keep {w w' : World} {base : Nat} {v : Value} {a : Aut} (h : AutO w base v a) {r : Option Nat} (hg : w.grownBy w' r) (hr : ∀ b, r = some b → b < base) : AutO w' base v a := by
  obtain ⟨va, vn, fin, rfl, h1, h2, h3, hn⟩ := h
  have key : ∀ {size n : Nat} {e : TypeId} {u : Value} {ys : List Value}, w.ownsRow base e size u n ys → u.ownBlock = none ∨ u.ownBlock ≠ r := fun {size n e u ys} h => by
    cases hu : u.ownBlock with
    | none => exact .inl rfl
    | some b => exact .inr (fun e => by have := own_ge h b hu; have := hr b e.symm; omega)
  refine ⟨va, vn, fin, rfl, h1.kept hg (key h1), h2.kept hg (key h2), h3.keep hg (fun q hq => ?_), hn⟩
  rcases key (h3.own q hq).1 with h | h
  · exact absurd h (h3.own q hq).2
  · exact h
theorem own_mono {w : World} {base base' size n : Nat} {e : TypeId} {v : Value} {xs : List Value} (h : w.ownsRow base e size v n xs) (hb : base' ≤ base) : w.ownsRow base' e size v n xs := by
  obtain ⟨h1, h2⟩ := h
  refine ⟨h1, ?_⟩
  rcases h2 with h2 | ⟨g, cap, cur, h3, h4, h5⟩
  · exact .inl h2
  · exact .inr ⟨g, cap, cur, h3, by omega, h5⟩
theorem AutO.mono {w : World} {base base' : Nat} {v : Value} {a : Aut} (h : AutO w base v a) (hb : base' ≤ base) : AutO w base' v a := by
  obtain ⟨va, vn, fin, rfl, h1, h2, h3, hn⟩ := h
  exact ⟨va, vn, fin, rfl, own_mono h1 hb, own_mono h2 hb, ⟨fun p hp => ⟨own_mono (h3.own p hp).1 hb, (h3.own p hp).2⟩, h3.apart⟩, hn⟩

/-- an automaton made by the call, and whether there is one -/
def AutOk (w w' : World) (r : Option (List Bool × List (List Int))) (e : Ending) : Prop :=
  ∃ v, e = .returned (.tuple #[v, .bool r.isSome]) ∧ AutV w' (w.heap.size ≤ ·) v (resAut r) ∧ Below w.heap.size w w'
/-- an automaton made by the call -/
def AutRes (w w' : World) (a : Aut) (e : Ending) : Prop :=
  ∃ v, e = .returned v ∧ AutV w' (w.heap.size ≤ ·) v a ∧ Below w.heap.size w w'
theorem AutV.none_ (w : World) (p : Nat → Prop) : AutV w p (.agg #[.int .i64 0, .slice none 0 0, .slice none 0 0]) ⟨0, [], []⟩ :=
  ⟨none, 0, 0, none, 0, 0, rfl, Sl.nil_, Sls.nil_⟩
end Go.Proofs.YtmnhpbbapkcdjaaGreat

/- Expressions in memory. Walks: l8Copy, l8Join, l8Leaf, LetterExpr. -/
namespace Go.Proofs.YtmnhpbbapkcdjaaGreat
open Go.RowKit

/-- the expression v reads as the tokens L -/
def ExV (w : World) (p : Nat → Prop) (v : Value) (L : List Tk) : Prop := ∃ A c, v = .agg #[.slice A L.length c] ∧ Tks w p A L
/-- the expression v: the tokens L in a block of its own -/
def ExO (w : World) (base : Nat) (v : Value) (L : List Tk) : Prop := ∃ u, v = .agg #[u] ∧ w.ownsRow base 89 4 u L.length (tks L)
section
variable {w w' : World} {p q : Nat → Prop} {v : Value} {L : List Tk} {base base' : Nat}
theorem ExO.ex (h : ExO w base v L) : ExV w (base ≤ ·) v L := by
  obtain ⟨u, rfl, ho⟩ := h
  obtain ⟨A, c, rfl⟩ := own_form ho
  exact ⟨A, c, rfl, Sl.of_own ho (fun b hb => own_ge ho b hb)⟩
theorem ExV.keep (h : ExV w p v L) (hw : w.heap.size ≤ w'.heap.size) (hk : ∀ b, p b → b < w.heap.size → w'.heap[b]? = w.heap[b]?) : ExV w' p v L := by
  obtain ⟨A, c, rfl, hT⟩ := h; exact ⟨A, c, rfl, hT.keep hw hk⟩
theorem ExV.weak (h : ExV w p v L) (hq : ∀ b, p b → b < w.heap.size → q b) : ExV w q v L := by
  obtain ⟨A, c, rfl, hT⟩ := h; exact ⟨A, c, rfl, hT.weak hq⟩
theorem ExV.below (h : ExV w p v L) (hb : Below w.heap.size w w') : ExV w' p v L := h.keep hb.size fun b _ hl => hb.block b hl
theorem ExO.mono (h : ExO w base v L) (hb : base' ≤ base) : ExO w base' v L := by
  obtain ⟨u, rfl, ho⟩ := h; exact ⟨u, rfl, own_mono ho hb⟩
theorem ExO.kept (h : ExO w base v L) {r : Option Nat} (hg : w.grownBy w' r) (hr : ∀ b, r = some b → b < base) : ExO w' base v L := by
  obtain ⟨u, rfl, ho⟩ := h
  refine ⟨u, rfl, ho.kept hg ?_⟩
  cases hu : u.ownBlock with
  | none => exact .inl rfl
  | some b => exact .inr (fun e => by have := own_ge ho b hu; have := hr b e.symm; omega)
theorem ExO.below (h : ExO w base v L) (hb : Below w.heap.size w w') : ExO w' base v L :=
  h.kept (r := none) ⟨hb.os, hb.tape, hb.output, hb.size, fun k hk _ => hb.block k hk⟩ (fun b e => by cases e)
end
theorem own_below {w w' : World} {base size n : Nat} {e : TypeId} {v : Value} {xs : List Value} (h : w.ownsRow base e size v n xs) (hb : Below w.heap.size w w') : w'.ownsRow base e size v n xs := by
  refine h.kept (row := none) ⟨hb.os, hb.tape, hb.output, hb.size, fun k hk _ => hb.block k hk⟩ ?_
  cases v.ownBlock <;> simp
theorem grown_set (W : World) (g i : Nat) (u : Value) : W.grownBy (W.setCell ⟨g, i, none⟩ u) (some g) := ⟨rfl, rfl, rfl, by simp, fun k hk hne => Below.heap_setCell W _ _ k (fun e => hne (by rw [e]))⟩
theorem own_set {w : World} {base g size n : Nat} {e t : TypeId} {v : Value} {xs : List Value} {cs : Array Value} (h : w.ownsRow base e size v n xs) (hg : Blk w g t cs) (hne : e ≠ t) (i : Nat) (u : Value) : (w.setCell ⟨g, i, none⟩ u).ownsRow base e size v n xs :=
  h.kept (grown_set w g i u) (.inr (own_blk_ne h hg hne).symm)
theorem below_set {B : Nat} {w w' : World} (h : Below B w w') {g : Nat} (hg : B ≤ g) (i : Nat) (u : Value) : Below B w (w'.setCell ⟨g, i, none⟩ u) := h.setCell hg u
theorem Blk.set_ne {w : World} {g g' i : Nat} {t : TypeId} {cs : Array Value} (h : Blk w g t cs) (hne : g ≠ g') (u : Value) : Blk (w.setCell ⟨g', i, none⟩ u) g t cs := h.same (Below.heap_setCell w _ _ g (by simpa using hne))
theorem blk2 (w : World) (o : Obj) (t : TypeId) (cs : Array Value) : Blk ((w.alloc o).alloc (.cells cs t)) (w.heap.size + 1) t cs := by
  have := Blk.new (w.alloc o) t cs; rwa [size_alloc] at this
theorem blk3 (w : World) (o o' : Obj) (t : TypeId) (cs : Array Value) : Blk (((w.alloc o).alloc o').alloc (.cells cs t)) (w.heap.size + 1 + 1) t cs := by
  have := Blk.new ((w.alloc o).alloc o') t cs; rwa [size_alloc, size_alloc] at this
theorem blk4 (w : World) (o o' o'' : Obj) (t : TypeId) (cs : Array Value) : Blk ((((w.alloc o).alloc o').alloc o'').alloc (.cells cs t)) (w.heap.size + 1 + 1 + 1) t cs := by
  have := Blk.new (((w.alloc o).alloc o').alloc o'') t cs; rwa [size_alloc, size_alloc, size_alloc] at this

set_option maxRecDepth 100000 in
theorem l8Copy_any (L : List Tk) (A : Option Addr) (c : Nat) (p : Nat → Prop) (w : World) (h : Tks w p A L) (hl : L.length ≤ 4000000000000) :
    Calls Tryz.prog 114 #[.slice A L.length c] w fun e w' => ∃ v, e = .returned v ∧ ExO w' w.heap.size v L ∧ Below w.heap.size w w' := by
  have hT := (h.al (.cells #[.slice none 0 0] 66)).al (.cells #[] 89)
  go_enter Tryz.func114, Tryz.ntmps114
  go_wp2_with (at_builtin; refine wpList_apps elTok rfl (.tmp 3) (.tmp 4) rfl (w.heap.size + 1) _ 0 [] rfl (own0 (by simp) (by simp)) p A L.length c (tks L) rfl hT (tks_one_cell L) ?hb ?h63 ?hbase ?_)
  case hb => omega
  case h63 => omega
  case hbase => simp
  intro v1 w1 hown hgr hat
  try simp only [Nat.zero_add, List.nil_append] at hown
  have hR : Blk w1 w.heap.size 66 #[.slice none 0 0] := ((Blk.new w _ _).alloc _).grown hgr (by simp [Value.ownBlock])
  have q0 : w1.cell? ⟨w.heap.size, 0, none⟩ = some (.slice none 0 0) := hR.cell 0
  have z0 := hR.frozen 0
  have hW : Below w.heap.size w w1 := (below_alloc2 w _ _).grown hgr (by simp; omega) (fun k hk => by simp [Value.ownBlock] at hk; omega)
  obtain ⟨A', c', rfl⟩ := own_form hown
  have hlt := hR.lt
  go_wp2
  refine bodyPost_ret (v := .agg #[.slice A' L.length c']) (by simp [results, Tryz.results114, go_sem, q0]) rfl ?_
  exact ⟨_, rfl, ⟨_, rfl, own_mono (own_set hown hR (by decide) _ _) (by omega)⟩, below_set hW (Nat.le_refl _) _ _⟩

set_option maxRecDepth 100000 in
set_option maxHeartbeats 1000000 in
theorem l8Join_any (La Lb : List Tk) (va vb : Value) (k l lo hi : Int) (p q : Nat → Prop) (w : World) (ha : ExV w p va La) (hb : ExV w q vb Lb) (hl : La.length + Lb.length + 1 ≤ 4000000000000) :
    Calls Tryz.prog 101 #[va, vb, .agg #[.int .i64 k, .int .i64 l, .int .i64 lo, .int .i64 hi]] w fun e w' => ∃ v, e = .returned v ∧ ExO w' w.heap.size v (La ++ Lb ++ [⟨k, l, lo, hi⟩]) ∧ Below w.heap.size w w' := by
  obtain ⟨A, ca, rfl, hA⟩ := ha
  obtain ⟨B, cb, rfl, hB⟩ := hb
  have hTA := (((hA.al (.cells #[.slice A La.length ca] 66)).al (.cells #[.slice B Lb.length cb] 66)).al (.cells #[.int .i64 k, .int .i64 l, .int .i64 lo, .int .i64 hi] 89)).al (.cells #[.slice none 0 0] 66)
  have hTB := (((hB.al (.cells #[.slice A La.length ca] 66)).al (.cells #[.slice B Lb.length cb] 66)).al (.cells #[.int .i64 k, .int .i64 l, .int .i64 lo, .int .i64 hi] 89)).al (.cells #[.slice none 0 0] 66)
  have b0 := (((Blk.new w 66 #[.slice A La.length ca]).alloc (.cells #[.slice B Lb.length cb] 66)).alloc (.cells #[.int .i64 k, .int .i64 l, .int .i64 lo, .int .i64 hi] 89)).alloc (.cells #[.slice none 0 0] 66)
  have b1 := ((blk2 w (.cells #[.slice A La.length ca] 66) 66 #[.slice B Lb.length cb]).alloc (.cells #[.int .i64 k, .int .i64 l, .int .i64 lo, .int .i64 hi] 89)).alloc (.cells #[.slice none 0 0] 66)
  have b2 := (blk3 w (.cells #[.slice A La.length ca] 66) (.cells #[.slice B Lb.length cb] 66) 89 #[.int .i64 k, .int .i64 l, .int .i64 lo, .int .i64 hi]).alloc (.cells #[.slice none 0 0] 66)
  have b3 := blk4 w (.cells #[.slice A La.length ca] 66) (.cells #[.slice B Lb.length cb] 66) (.cells #[.int .i64 k, .int .i64 l, .int .i64 lo, .int .i64 hi] 89) 66 #[.slice none 0 0]
  have f0 := b0.cell 0
  simp at f0
  have hW : Below w.heap.size w ((((w.alloc (.cells #[.slice A La.length ca] 66)).alloc (.cells #[.slice B Lb.length cb] 66)).alloc (.cells #[.int .i64 k, .int .i64 l, .int .i64 lo, .int .i64 hi] 89)).alloc (.cells #[.slice none 0 0] 66)) := (below_alloc2 w _ _).trans ((below_alloc2 _ _ _).mono (by simp; omega))
  go_enter Tryz.func101, Tryz.ntmps101
  go_wp2_with fail
  refine (l8Copy_any La A ca p _ hTA (by omega)).mono ?_
  rintro e w5 ⟨v5, rfl, ⟨u, rfl, ho⟩, hb5⟩
  have hs5 : w.heap.size + 1 + 1 + 1 + 1 ≤ w5.heap.size := by have := hb5.size; simpa using this
  have c1 := (b1.below hb5 b1.lt).alloc (.cells #[u] 66)
  have c2 := (b2.below hb5 b2.lt).alloc (.cells #[u] 66)
  have c3 := (b3.below hb5 b3.lt).alloc (.cells #[u] 66)
  have hTB5 := (hTB.below hb5).al (.cells #[u] 66)
  have ho5 : (w5.alloc (.cells #[u] 66)).ownsRow (w.heap.size + 1 + 1 + 1 + 1) 89 4 u La.length (tks La) := own_mono (own_below ho (below_alloc w5 (.cells #[u] 66))) (by simp)
  have cx := Blk.new w5 66 #[u]
  have hW5 := (hW.trans (hb5.mono (by simp; omega))).trans ((below_alloc w5 (.cells #[u] 66)).mono (by omega))
  obtain ⟨A5, c5, rfl⟩ := own_form ho5
  have g1 := c1.cell 0
  have gx := cx.cell 0
  simp at g1 gx
  have zx := cx.frozen 0
  have hlx := cx.lt
  clear hTA hTB b0 b1 b2 b3 f0 ho hW hb5
  go_wp2_with (at_builtin; refine wpList_apps elTok rfl (.tmp 12) (.tmp 14) rfl (w.heap.size + 1 + 1 + 1 + 1) _ La.length (tks La) rfl ho5 q B Lb.length cb (tks Lb) rfl hTB5 (tks_one_cell Lb) ?hb ?h63 ?hbase ?_)
  case hb => omega
  case h63 => omega
  case hbase => simp; omega
  intro v6 w6 ho6 hg6 _
  rw [← tks_app] at ho6
  have hge := own_ge ho5
  have n2 : ∀ j, j < w.heap.size + 1 + 1 + 1 + 1 → some j ≠ (Value.slice A5 La.length c5).ownBlock := fun j hj e => by have := hge j e.symm; omega
  have d2 := c2.grown hg6 (n2 _ (by omega))
  have d3 := c3.grown hg6 (n2 _ (by omega))
  have dx := cx.grown hg6 (own_blk_ne ho5 cx (by decide))
  have hW6 := hW5.grown hg6 hW5.size (fun j hj => by have := hge j hj; omega)
  obtain ⟨A6, c6, rfl⟩ := own_form ho6
  have ho7 := own_set ho6 dx (by decide) 0 (.slice A6 (La.length + Lb.length) c6)
  have e2 := d2.set_ne (g' := w5.heap.size) (i := 0) (by omega) (.slice A6 (La.length + Lb.length) c6)
  have e3 := d3.set_ne (g' := w5.heap.size) (i := 0) (by omega) (.slice A6 (La.length + Lb.length) c6)
  have ex := dx.set_ 0 (.slice A6 (La.length + Lb.length) c6)
  have hW7 := below_set hW6 (g := w5.heap.size) (by omega) 0 (.slice A6 (La.length + Lb.length) c6)
  have gx2 := ex.cell 0
  have t0 := e2.cell 0; have t1 := e2.cell 1; have t2 := e2.cell 2; have t3 := e2.cell 3
  have gd := dx.cell 0
  simp at t0 t1 t2 t3 gx2 gd
  have zx := dx.frozen 0
  have hlx6 := dx.lt
  clear n2 hge ho5 hg6 hW5 hW6 c1 c2 c3 cx d2 d3 g1 gx hTB5
  go_wp2_with (at_builtin; refine wpList_app1 elTok rfl (.tmp 18) (.tmp 20) rfl (w.heap.size + 1 + 1 + 1 + 1) _ (La.length + Lb.length) (tks (La ++ Lb)) rfl ho7 #[.int .i64 k, .int .i64 l, .int .i64 lo, .int .i64 hi] _ rfl (by simp) rfl (by simp [Value.oneCell']) ?hb ?h63 ?hbase ?_)
  case hb => omega
  case h63 => omega
  case hbase => simp; omega
  intro g8 c8 w8 ho8 hg8 _ hlt8 hgb8
  have hge := own_ge ho7
  have n2 : ∀ j, j < w.heap.size + 1 + 1 + 1 + 1 → some j ≠ (Value.slice A6 (La.length + Lb.length) c6).ownBlock := fun j hj e => by have := hge j e.symm; omega
  have r3 := e3.grown hg8 (n2 _ (by omega))
  have rx := ex.grown hg8 (own_blk_ne ho7 ex (by decide))
  have hW8 := hW7.grown hg8 hW7.size (fun j hj => by have := hge j hj; omega)
  have zx8 := rx.frozen 0; have z38 := r3.frozen 0
  have ho9 := own_set ho8 rx (by decide) 0 (.slice (some ⟨g8, 0, none⟩) (La.length + Lb.length + 1) c8)
  have s3 := r3.set_ne (g' := w5.heap.size) (i := 0) (by omega) (.slice (some ⟨g8, 0, none⟩) (La.length + Lb.length + 1) c8)
  have sx := rx.set_ 0 (.slice (some ⟨g8, 0, none⟩) (La.length + Lb.length + 1) c8)
  have hW9 := below_set hW8 (g := w5.heap.size) (by omega) 0 (.slice (some ⟨g8, 0, none⟩) (La.length + Lb.length + 1) c8)
  have y3 := s3.cell 0; have yx := sx.cell 0
  have zs3 := s3.frozen 0
  have rd := rx.cell 0; have r3d := r3.cell 0
  simp at y3 yx rd r3d
  have hlx8 := rx.lt
  clear n2 hge ho7 hg8 hW7 hW8 e2 e3 ex t0 t1 t2 t3 gx2 gd
  go_wp2
  refine bodyPost_ret (v := .agg #[.slice (some ⟨g8, 0, none⟩) (La.length + Lb.length + 1) c8]) (by simp [results, Tryz.results101, go_sem, y3, yx]) rfl ?_
  have hf : (tks (La ++ Lb) ++ [Value.int .i64 k, Value.int .i64 l, Value.int .i64 lo, Value.int .i64 hi]) = tks (La ++ Lb ++ [⟨k, l, lo, hi⟩]) := by rw [tks_app (La ++ Lb), tks_one]; rfl
  refine ⟨_, rfl, ⟨_, rfl, ?_⟩, below_set hW9 (by omega) _ _⟩
  have h10 := own_set ho9 s3 (by decide) 0 (.slice (some ⟨g8, 0, none⟩) (La.length + Lb.length + 1) c8)
  have h11 := own_mono (base' := w.heap.size) h10 (by omega)
  rw [hf] at h11
  rw [show (La ++ Lb ++ [(⟨k, l, lo, hi⟩ : Tk)]).length = La.length + Lb.length + 1 by simp; omega]
  exact h11

set_option maxRecDepth 100000 in
theorem l8Leaf_any (k : Int) (w : World) : Calls Tryz.prog 99 #[.int .i64 k] w fun e w' => ∃ v, e = .returned v ∧ ExO w' w.heap.size v [⟨k, 0, 0, 0⟩] ∧ Below w.heap.size w w' := by
  have hB := (Blk.new w 66 #[.slice none 0 0]).alloc (.cells #[.int .i64 k, .int .i64 0, .int .i64 0, .int .i64 0] 89)
  have z0 := hB.frozen 0
  have q0 := hB.cell 0
  simp at q0
  have ho : ((w.alloc (.cells #[.slice (some ⟨w.heap.size + 1, 0, none⟩) 1 1] 66)).alloc (.cells #[.int .i64 k, .int .i64 0, .int .i64 0, .int .i64 0] 89)).ownsRow (w.heap.size + 1) 89 4 (.slice (some ⟨w.heap.size + 1, 0, none⟩) 1 1) 1 (tks [⟨k, 0, 0, 0⟩]) := by
    have := World.ownsRow_lit (base := w.heap.size + 1) (size := 4) (e := 89) (w.alloc (.cells #[.slice (some ⟨w.heap.size + 1, 0, none⟩) 1 1] 66)) #[.int .i64 k, .int .i64 0, .int .i64 0, .int .i64 0] 1 (by simp) (by decide) rfl
    simpa [tks, Tk.cells] using this
  go_enter Tryz.func99, Tryz.ntmps99
  go_wp2
  refine bodyPost_ret (v := .agg #[.slice (some ⟨w.heap.size + 1, 0, none⟩) 1 1]) (by simp [results, Tryz.results99, go_sem, q0]) rfl ?_
  exact ⟨_, rfl, ⟨_, rfl, own_mono (base' := w.heap.size) ho (by omega)⟩, below_alloc2 w _ _⟩
set_option maxRecDepth 100000 in
theorem LetterExpr_any (k : Int) (w : World) : Calls Tryz.prog 100 #[.int .i64 k] w fun e w' => ∃ v, e = .returned v ∧ ExO w' w.heap.size v [⟨3, k, 0, 0⟩] ∧ Below w.heap.size w w' := by
  have hB := (Blk.new w 66 #[.slice none 0 0]).alloc (.cells #[.int .i64 3, .int .i64 k, .int .i64 0, .int .i64 0] 89)
  have z0 := hB.frozen 0
  have q0 := hB.cell 0
  simp at q0
  have ho : ((w.alloc (.cells #[.slice (some ⟨w.heap.size + 1, 0, none⟩) 1 1] 66)).alloc (.cells #[.int .i64 3, .int .i64 k, .int .i64 0, .int .i64 0] 89)).ownsRow (w.heap.size + 1) 89 4 (.slice (some ⟨w.heap.size + 1, 0, none⟩) 1 1) 1 (tks [⟨3, k, 0, 0⟩]) := by
    have := World.ownsRow_lit (base := w.heap.size + 1) (size := 4) (e := 89) (w.alloc (.cells #[.slice (some ⟨w.heap.size + 1, 0, none⟩) 1 1] 66)) #[.int .i64 3, .int .i64 k, .int .i64 0, .int .i64 0] 1 (by simp) (by decide) rfl
    simpa [tks, Tk.cells] using this
  go_enter Tryz.func100, Tryz.ntmps100
  go_wp2
  refine bodyPost_ret (v := .agg #[.slice (some ⟨w.heap.size + 1, 0, none⟩) 1 1]) (by simp [results, Tryz.results100, go_sem, q0]) rfl ?_
  exact ⟨_, rfl, ⟨_, rfl, own_mono (base' := w.heap.size) ho (by omega)⟩, below_alloc2 w _ _⟩
end Go.Proofs.YtmnhpbbapkcdjaaGreat
