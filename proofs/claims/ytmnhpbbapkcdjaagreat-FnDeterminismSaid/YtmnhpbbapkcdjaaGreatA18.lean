/- Walks: the program's numbering of states. No condition. -/
import Derived.Test.YtmnhpbbapkcdjaaGreatA17
import Derived.Deep.DeepCutAuto
import Derived.Maps.OwnSet
import Derived.Maps.OwnOps
import Derived.Maps.Keyed

/- Walks: the program's numbering of states. -/
namespace Go.Proofs.YtmnhpbbapkcdjaaGreat
open Go.RowKit Go.Maps

theorem keyInt : Keyed Tryz.prog 3 := int_keyed Tryz.underlying3
theorem zeroInt (w : World) : (zeroValue 3).run Tryz.prog w = .ok (.int .i64 0) w := by kernel_rfl
theorem wfI64 {n : Int} (h : -9223372036854775808 ≤ n ∧ n ≤ 9223372036854775807) : (Lit.int .i64 n).wf = true := by
  simp only [Lit.wf, IntKind.min, IntKind.max, IntKind.bits, IntKind.signed, Bool.and_eq_true, decide_eq_true_eq]
  exact h
def wfI (x : Int) : Prop := (Lit.int .i64 x).wf = true

/-- the numbers of the states so far -/
def numD (ls : List Int) : DataW Unit := ls.zipIdx.foldl (fun m p => m.put (.int .i64 p.1) (.lit (.int .i64 p.2))) (.map [])
theorem numD_snoc (ls : List Int) (x : Int) : numD (ls ++ [x]) = (numD ls).put (.int .i64 x) (.lit (.int .i64 ls.length)) := by
  simp [numD, List.zipIdx_append]
theorem numD_isMap : ∀ (ls : List Int), IsMap (numD ls) := by
  intro ls
  unfold numD
  generalize ls.zipIdx = l
  suffices ∀ m : DataW Unit, IsMap m → IsMap (l.foldl (fun m p => m.put (.int .i64 p.1) (.lit (.int .i64 p.2))) m) from this _ isMap_empty
  induction l with
  | nil => exact fun m h => h
  | cons p l ih => exact fun m h => ih _ (h.put _ _)
theorem findI_app (x : Int) : ∀ (ls ms : List Int) (k : Nat), findI x (ls ++ ms) k = if findI x ls k < 0 then findI x ms (k + ls.length) else findI x ls k
  | [], ms, k => by simp [findI]
  | y :: ls, ms, k => by
    rw [List.cons_append]
    by_cases h : y = x
    · have a1 : ∀ l, findI x (y :: l) k = (k : Int) := fun l => by simp [findI, h]
      rw [a1, a1, if_neg (by omega)]
    · have a1 : ∀ l, findI x (y :: l) k = findI x l (k + 1) := fun l => by simp [findI, h]
      rw [a1, a1, findI_app x ls ms (k + 1), List.length_cons, show k + 1 + ls.length = k + (ls.length + 1) by omega]
theorem isKey_int (x : Int) : WideAt.IsKeyLit (.int .i64 x) := by trivial
/-- what the map says, where no state is there twice -/
theorem numD_spec (ls : List Int) (x : Int) : ls.Nodup → has (numD ls) (.int .i64 x) = decide (0 ≤ findI x ls 0) ∧ (0 ≤ findI x ls 0 → ∀ z, (numD ls).atKey (.int .i64 x) z = .lit (.int .i64 (findI x ls 0))) := by
  suffices ∀ (rs : List Int), rs.reverse.Nodup → has (numD rs.reverse) (.int .i64 x) = decide (0 ≤ findI x rs.reverse 0) ∧ (0 ≤ findI x rs.reverse 0 → ∀ z, (numD rs.reverse).atKey (.int .i64 x) z = .lit (.int .i64 (findI x rs.reverse 0))) by
    have := this ls.reverse
    rwa [List.reverse_reverse] at this
  intro rs
  induction rs with
  | nil => intro _; exact ⟨rfl, fun h => by simp [findI] at h⟩
  | cons y rs ih =>
    intro hn
    rw [List.reverse_cons] at hn ⊢
    have hn1 : rs.reverse.Nodup := (List.nodup_append.1 hn).1
    have hy : y ∉ rs.reverse := fun hm => (List.nodup_append.1 hn).2.2 y hm y (by simp) rfl
    obtain ⟨h1, h2⟩ := ih hn1
    rw [numD_snoc, findI_app]
    by_cases hxy : x = y
    · subst hxy
      have hf : findI x rs.reverse 0 < 0 := by
        rcases Int.lt_or_le (findI x rs.reverse 0) 0 with h | h
        · exact h
        · exact absurd ((findI_mem x _ 0).1 h) hy
      rw [if_pos hf, has_put_same (numD_isMap _) (isKey_int x)]
      simp only [findI, if_true]
      refine ⟨by simp, fun _ z => ?_⟩
      rw [atKey_put_same (numD_isMap _) (isKey_int x)]
      simp
    · have hne : (Lit.int .i64 x) ≠ (Lit.int .i64 y) := by simpa using hxy
      rw [has_put_other hne, h1]
      by_cases hf : findI x rs.reverse 0 < 0
      · rw [if_pos hf]
        have hm1 : findI x [y] (0 + rs.reverse.length) = -1 := by simp [findI, Ne.symm hxy]
        rw [hm1]
        exact ⟨by simp; omega, fun h => absurd h (by omega)⟩
      · rw [if_neg hf]
        exact ⟨rfl, fun h z => by rw [atKey_put_other hne]; exact h2 h z⟩

def MapN (w : World) (gm : Nat) (ls : List Int) : Prop := w.ownsMap Tryz.prog 3 (plainElem (H := Unit) Tryz.prog 3) gm ls.length (numD ls)
theorem MapN.obj {w : World} {gm : Nat} {ls : List Int} (h : MapN w gm ls) : ∃ es c, w.heap[gm]? = some (.map es c) := by obtain ⟨es, c, h, _⟩ := h; exact ⟨es, c, h⟩
theorem MapN.same {w w' : World} {gm : Nat} {ls : List Int} (h : MapN w gm ls) (hw : w'.heap[gm]? = w.heap[gm]?) : MapN w' gm ls := by
  obtain ⟨es, c, h1, h2⟩ := h
  exact ⟨es, c, hw.trans h1, h2⟩
theorem MapN.lt {w : World} {gm : Nat} {ls : List Int} (h : MapN w gm ls) : gm < w.heap.size := by
  obtain ⟨es, c, h⟩ := h.obj
  rcases Nat.lt_or_ge gm w.heap.size with hlt | hge
  · exact hlt
  · rw [Array.getElem?_eq_none hge] at h; cases h
theorem MapN.bel {w w' : World} {gm : Nat} {ls : List Int} (h : MapN w gm ls) (hb : Below w.heap.size w w') : MapN w' gm ls := h.same (hb.block gm h.lt)
theorem MapN.alloc {w : World} {gm : Nat} {ls : List Int} (h : MapN w gm ls) (o : Obj) : MapN (w.alloc o) gm ls := h.bel (below_alloc w o)
theorem MapN.far {w w' : World} {gm : Nat} {ls : List Int} (h : MapN w gm ls) {base size n : Nat} {e : TypeId} {v : Value} {xs : List Value} (ho : w.ownsRow base e size v n xs) (hg : w.grownBy w' v.ownBlock) : MapN w' gm ls := by
  obtain ⟨es, c, hm⟩ := h.obj
  refine h.same (hg.block gm h.lt (fun he => ?_))
  rcases own_map_ne ho hm with h1 | h1
  · rw [h1] at he; cases he
  · exact h1 he.symm
theorem MapN.farBlk {w w' : World} {gm g : Nat} {ls : List Int} (h : MapN w gm ls) {t : TypeId} {cs : Array Value} (hB : Blk w g t cs) (hg : ∀ k, k < w.heap.size → k ≠ g → w'.heap[k]? = w.heap[k]?) : MapN w' gm ls := by
  obtain ⟨es, c, hm⟩ := h.obj
  refine h.same (hg gm h.lt (fun he => ?_))
  subst he
  unfold Blk at hB
  rw [hm] at hB; cases hB

theorem map0 {w : World} {g : Nat} (hg : g = w.heap.size) : (w.alloc (.map #[] 0)).ownsMap Tryz.prog 3 (plainElem (H := Unit) Tryz.prog 3) g 0 (.map []) := by subst hg; exact World.ownsMap_made _ _ _ _
theorem wpList_insert_own {H : Type} {P : Program} (w : World) {ops : Array Oper} {rest : List Oper} {o : Oper} {a : Act} {Q : Exit → Act → World → Prop}
    (hg : o.guard = none) (m x v : Operand) (t : TypeId) (hop : o.op = Op.insert t m x v)
    (k e : TypeId) (K : Keyed P k) (ht : P.underlying t = some (.map k e)) (R : Value → Option (DataW H × List MemPlace)) (b n : Nat) (D : DataW H)
    (hm : a.eval m = .map (some b)) (hown : w.ownsMap P k R b n D) (hn : n < maxLen) (key val : Value) (kl : Lit) (hx : a.eval x = key) (hv : a.eval v = val) (hkey : keyOf P k key = some kl)
    (d : DataW H) (ps : List MemPlace) (hval : R val = some (d, ps))
    (hK : ∀ w', w'.ownsMap P k R b (n + 1) (D.put kl d) → w.grownBy w' (some b) → wpList P ops Q rest (a.put o.dst undef) w') :
    wpList P ops Q (o :: rest) a w := by
  refine wpList_plain hg fun K' hK' => ?_
  obtain ⟨w', hrun, r1, r2⟩ := hown.update K ht hn hkey hval
  unfold Oper.wp
  simp [execOp, hop, hm, hx, hv, hrun, Result.andThen]
  exact hK' _ _ (hK w' r1 r2)

def NextPost (nx : Int → Nat → Option Int) (x : Int) (k : Nat) (w' : World) (e : Ending) (w'' : World) : Prop :=
  ∃ (t : Int) (b : Bool), e = .returned (.tuple #[.int .i64 t, .bool b]) ∧ nx x k = (if b then some t else none) ∧ Below w'.heap.size w' w''

/-- at the head of a round -/
structure NumR (nx : Int → Nat → Option Int) (ac : Int → Bool) (ok : Int → Prop) (first : Int) (most : Nat) (w2 : World) (base go gm i : Nat) (ls : List Int) (acc : List Bool) (fin : List (Value × List Int)) (va vn vl : Value) (wr : World) : Prop where
  run : numbR nx ac most first = numRun nx ac most (most + 2 - i) i ls acc (fin.map Prod.snd)
  le : i ≤ ls.length
  bd : ls.length ≤ most ∨ (i = 0 ∧ ls.length = 1)
  mo : NMo w2 base acc (fin.map Prod.fst) va vn go wr
  rows : IRows wr base ((vl, ls) :: fin)
  al : acc.length = i
  fl : fin.length = i
  map : MapN wr gm ls
  nd : ls.Nodup
  oks : ∀ x ∈ ls, ok x
def NumRel (nx : Int → Nat → Option Int) (ac : Int → Bool) (ok : Int → Prop) (first : Int) (most : Nat) (w2 : World) (base go gm : Nat) (vl iv : Value) (wr : World) : Prop :=
  ∃ i ls acc fin va vn g c, iv = .int .i64 (i : Nat) ∧ vl = .slice (some ⟨g, 0, none⟩) ls.length c ∧ NumR nx ac ok first most w2 base go gm i ls acc fin va vn vl wr
def numW2 (w : World) : World := w.alloc (.cells #[.int .i64 0, .slice none 0 0, .slice none 0 0] 31)
theorem numRel_start (nx : Int → Nat → Option Int) (ac : Int → Bool) (ok : Int → Prop) (first : Int) (most : Nat) (w w1 : World) (h1 : ok first)
    (hmap : w1.ownsMap Tryz.prog 3 (plainElem (H := Unit) Tryz.prog 3) (w.heap.size + 1 + 1) (0 + 1) ((DataW.map []).put (Lit.int .i64 first) (.lit (.int .i64 0))))
    (hgm : (((numW2 w).alloc (.cells #[.int .i64 first] 3)).alloc (.map #[] 0)).grownBy w1 (some (w.heap.size + 1 + 1))) :
    NumRel nx ac ok first most (numW2 w) (w.heap.size + 1) w1.heap.size (w.heap.size + 1 + 1) (.slice (some ⟨w.heap.size + 1, 0, none⟩) 1 1) (.int .i64 0) (w1.alloc (.cells #[.int .i64 0, .slice none 0 0, .slice none 0 0] 31)) := by
  have hsz : (numW2 w).heap.size = w.heap.size + 1 := by simp [numW2]
  have hr := IRows.one (u := first) (g := w.heap.size + 1) (base := w.heap.size + 1) (w := numW2 w) IRows.nil_ hsz.symm (Nat.le_refl _)
  have hr1 := (hr.alloc (.map #[] 0)).keep hgm (fun p hp => by
    simp only [List.mem_singleton] at hp; subst hp; simp [Value.ownBlock])
  have hm1 : MapN w1 (w.heap.size + 1 + 1) [first] := hmap
  have hbz : Below (w.heap.size + 1) (numW2 w) w1 := (((Below.refl (w.heap.size + 1) (numW2 w)).alloc (by omega) _).alloc (by simp; omega) _).grown hgm (by simp; omega) (fun k hk => by injection hk with hk; omega)
  have hb1 : w.heap.size + 1 ≤ w1.heap.size := by have := hbz.size; omega
  refine ⟨0, [first], [], [], .slice none 0 0, .slice none 0 0, _, _, rfl, rfl, rfl, by simp, .inr ⟨rfl, rfl⟩, ⟨World.ownsRow_nil _ _ _ _, World.ownsRow_nil _ _ _ _, Blk.new _ _ _, hb1, hbz.alloc hb1 _, by omega⟩, hr1.alloc _, rfl, rfl, hm1.alloc _, by simp, fun x hx => by simp at hx; subst hx; exact h1⟩

set_option maxHeartbeats 2000000 in
set_option maxRecDepth 100000 in
theorem numbered_any (first : Int) (most : Nat) (ka kn : FuncId) (fa ca fn cn : Array Value) (ac : Int → Bool) (nx : Int → Nat → Option Int) (ok : Int → Prop) (w : World) (hm : most ≤ 1000)
    (hca : ∀ (args : Array Value) (w : World), (callFunc ka args).run Tryz.prog w = .ok (.enter ka args) w) (hcn : ∀ (args : Array Value) (w : World), (callFunc kn args).run Tryz.prog w = .ok (.enter kn args) w)
    (h1 : ok first) (hok : ∀ x, ok x → wfI x) (hcl : ∀ x k t, ok x → k < 9 → nx x k = some t → ok t)
    (ha : ∀ x w', ok x → Below w.heap.size w w' → Calls Tryz.prog ka (fa ++ (#[.int .i64 x] ++ ca)) w' fun e w'' => e = .returned (.bool (ac x)) ∧ Below w'.heap.size w' w'')
    (hn : ∀ x (k : Nat) w', ok x → k < 9 → Below w.heap.size w w' → Calls Tryz.prog kn (fn ++ (#[.int .i64 x, .int .i64 k] ++ cn)) w' fun e w'' => NextPost nx x k w' e w'') :
    Calls Tryz.prog 58 #[.int .i64 first, .int .i64 most, .func (.func ka) fa ca, .func (.func kn) fn cn] w fun e w' => AutOk w w' (numbR nx ac most first) e := by
  have hmm := @run_makeMap Tryz.prog
  have HA := Lib.hid ha; have HN := Lib.hid hn; have HOK := Lib.hid hok; have HCL := Lib.hid hcl
  clear ha hn hok hcl
  go_enter Tryz.func58, Tryz.ntmps58
  go_wp2_with (refine wpList_insert_own (H := Unit) _ rfl _ _ _ 96 rfl 3 3 keyInt Tryz.underlying96 (plainElem Tryz.prog 3) _ 0 (.map []) rfl (map0 (by simp)) (by decide) (.int .i64 first) (.int .i64 0) (.int .i64 first) rfl rfl (keyOf_int_mk Tryz.underlying3 (HOK.out _ h1)) (.lit (.int .i64 0)) [] (plainElem_int Tryz.underlying3 (by decide)) ?_; intro w1 hmap hgm)
  have hR0 := numRel_start nx ac ok first most w w1 h1 hmap hgm
  have hbz : Below (w.heap.size + 1) (numW2 w) w1 := (((Below.refl (w.heap.size + 1) (numW2 w)).alloc (by simp [numW2]) _).alloc (by simp [numW2]) _).grown hgm (by simp [numW2]) (fun k hk => by injection hk with hk; omega)
  have hRB : Blk (numW2 w) w.heap.size 31 #[.int .i64 0, .slice none 0 0, .slice none 0 0] := Blk.new _ _ _
  have hW : Below w.heap.size w (numW2 w) := below_alloc _ _
  have hgoB : w.heap.size + 1 ≤ w1.heap.size := by have := hbz.size; simp [numW2] at this; omega
  clear hmap hgm hbz
  go_wp2_with fail
  go_loopw [10, 13] (fun vl iv wr => NumRel nx ac ok first most (numW2 w) (w.heap.size + 1) w1.heap.size (w.heap.size + 1 + 1) vl iv wr) (fun _ i _ => most + 1 - (intOf i).toNat)
  case atStart => exact hR0
  case round =>
    clear hR0
    generalize numW2 w = W2 at *
    generalize w1.heap.size = go at *
    obtain ⟨i, ls, acc, fin, va, vn, g, c, rfl, rfl, hI⟩ := hrel
    obtain ⟨wo, rfl⟩ : ∃ wo : World, wo = wr := ⟨_, rfl⟩
    have hll : ls.length ≤ 1001 := by rcases hI.bd with h | h <;> omega
    by_cases hlt : i < ls.length
    · have hrow := IRows.new hI.rows (g := wo.heap.size) rfl (by have := hI.mo.below.size; have := hI.mo.size; omega)
      have hrow := hrow.perm (List.Perm.swap _ _ _)
      have hmo := hI.mo.alloc (.cells #[] 3)
      have hmp := hI.map.alloc (.cells #[] 3)
      have hnd := hI.nd
      have hoks := hI.oks
      have hOK0 : ok (ls[i]?.getD 0) := by rw [List.getElem?_eq_getElem hlt]; exact hI.oks _ (List.getElem_mem hlt)
      go_wp2_with fail
      go_loopw [10, 14, 15] (fun vl vr kv wr => ∃ k g c g2 c2, k ≤ 9 ∧ kv = .int .i64 (k : Nat) ∧ vl = .slice (some ⟨g, 0, none⟩) (upto (rowStep nx (ls[i]?.getD 0)) (ls, []) k).1.length c ∧ vr = .slice (some ⟨g2, 0, none⟩) k c2 ∧
          IRows wr (w.heap.size + 1) ((vl, (upto (rowStep nx (ls[i]?.getD 0)) (ls, []) k).1) :: (vr, (upto (rowStep nx (ls[i]?.getD 0)) (ls, []) k).2) :: fin) ∧ NMo W2 (w.heap.size + 1) acc (fin.map Prod.fst) va vn go wr ∧
          MapN wr (w.heap.size + 1 + 1) (upto (rowStep nx (ls[i]?.getD 0)) (ls, []) k).1 ∧ (upto (rowStep nx (ls[i]?.getD 0)) (ls, []) k).1.Nodup ∧ ∀ x ∈ (upto (rowStep nx (ls[i]?.getD 0)) (ls, []) k).1, ok x) (fun _ _ k _ => 9 - (intOf k).toNat)
      case atStart => exact ⟨0, _, _, _, _, by omega, rfl, rfl, rfl, hrow, hmo, hmp, hnd, hoks⟩
      case round =>
        obtain ⟨k, g1, c1', g2, c2', hk, rfl, rfl, rfl, hR, hM, hMp, hND, hOKs⟩ := hrel
        clear hrow hmo hmp hnd hoks
        have HPL := Lib.hid (upto_row_len (nx := nx) (s := ls[i]?.getD 0) (ls := ls) k)
        have HAT := Lib.hid (upto_row_at (nx := nx) (s := ls[i]?.getD 0) hlt k)
        have HSU : Hid (upto (rowStep nx (ls[i]?.getD 0)) (ls, []) (k + 1) = rowStep nx (ls[i]?.getD 0) (upto (rowStep nx (ls[i]?.getD 0)) (ls, []) k) k) := Lib.hid rfl
        have H9 : Hid (k = 9 → rowF nx (ls[i]?.getD 0) ls = upto (rowStep nx (ls[i]?.getD 0)) (ls, []) k) := Lib.hid (fun h => by rw [h]; rfl)
        generalize upto (rowStep nx (ls[i]?.getD 0)) (ls, []) k = st at *
        have hrl : st.2.length = k := HPL.out.1
        have hsl : i < st.1.length := by have := HPL.out.2.1; omega
        have hsb : st.1.length ≤ 1010 := by have := HPL.out.2.2; omega
        have HRL := Lib.hid hrl; clear hrl
        have HND := Lib.hid hND; have HOKs := Lib.hid hOKs; clear hND hOKs
        by_cases hk9 : k < 9
        · have hci : wr.cell? ⟨g1, i, none⟩ = some (.int .i64 (ls[i]?.getD 0)) := by have := own_int_at hR.head hsl; rwa [HAT.out] at this
          clear HAT H9
          generalize ls[i]?.getD 0 = s0 at *
          have hbel : Below w.heap.size w wr := hW.trans (hM.below.mono (by omega))
          go_wp2_with fail
          refine (HN.out s0 k wr hOK0 hk9 hbel).mono ?_; rintro e w3 ⟨t, b, rfl, hnx, hb3⟩
          have hR3 := hR.below hb3
          have hM3 := hM.bel hb3
          have hMp3 := hMp.bel hb3
          have hbs : w.heap.size + 1 ≤ w3.heap.size := Nat.le_trans (Nat.le_trans hM.size hM.below.size) hb3.size
          have HNX := Lib.hid hnx
          clear hR hM hMp hb3 hci hbel hnx
          cases b with
          | false =>
            have HS : Hid (rowStep nx s0 st k = (st.1, st.2 ++ [-1])) := Lib.hid (rowStep_none HNX.out)
            go_wp2_with (at_builtin; refine wpList_app1 elInt rfl (.tmp 49) (.tmp 50) rfl (w.heap.size + 1) _ k (ints st.2) rfl (by have := hR3.snd; rwa [HRL.out] at this) #[.int .i64 (-1)] _ rfl (by simp) rfl (by simp [Value.oneCell']) (by omega) (by omega) hbs ?_; intro g4 c4 w4 ho4 hg4 hb4 _ _; have hM4 := hM3.farInt (by have := hR3.snd; rwa [HRL.out] at this) hg4; have hMp4 := hMp3.far hR3.snd hg4; have hR4 := hR3.appRow HRL.out.symm ho4 hg4 hb4; clear ho4 hg4 hb4 hR3 hM3 hMp3)
            go_roundw
            case rel => exact ⟨k + 1, g1, c1', g4, c4, by omega, by go_num, by rw [HSU.out, HS.out], rfl, by rw [HSU.out, HS.out]; exact hR4, hM4, by rw [HSU.out, HS.out]; exact hMp4, by rw [HSU.out, HS.out]; exact HND.out, by rw [HSU.out, HS.out]; exact HOKs.out⟩
            case measure => simp [intOf]; omega
          | true =>
            have hOKt : ok t := HCL.out s0 k t hOK0 hk9 HNX.out
            have HSP := Lib.hid (numD_spec st.1 t HND.out)
            by_cases hfi : findI t st.1 0 < 0
            · have HS := Lib.hid (rowStep_new (st := st) HNX.out hfi)
              have hhas : has (numD st.1) (.int .i64 t) = false := by rw [HSP.out.1]; simp; omega
              have HT := Lib.hid (show t ∉ st.1 from fun hm => by have := (findI_mem t st.1 0).2 hm; omega)
              clear hfi
              obtain ⟨es, cc, hobj⟩ := hMp3.obj
              go_wp2_with (first
                | (at_lookup; refine wpList_lookup_own_ok_int (H := Unit) _ rfl _ _ 96 rfl 3 3 .i64 keyInt Tryz.underlying96 Tryz.underlying3 (zeroInt _) (w.heap.size + 1 + 1) st.1.length (numD st.1) rfl hMp3 (.int .i64 t) (.int .i64 t) rfl (keyOf_int_mk Tryz.underlying3 (HOK.out _ hOKt)) ?_; intro c9 hat hwc; rw [hhas]; clear hat hwc)
                | (at_mapUpdate; refine wpList_mapUpdate_own (H := Unit) _ rfl _ _ _ 96 rfl 3 3 keyInt Tryz.underlying96 (plainElem Tryz.prog 3) (w.heap.size + 1 + 1) st.1.length (numD st.1) rfl hMp3 (by unfold maxLen; omega) (.int .i64 t) (.int .i64 st.1.length) (.int .i64 t) rfl rfl (keyOf_int_mk Tryz.underlying3 (HOK.out _ hOKt)) (.lit (.int .i64 st.1.length)) [] (plainElem_int Tryz.underlying3 (wfI64 (by omega))) ?_; intro w4 hmp4 hg4; have hMp4 : MapN w4 (w.heap.size + 1 + 1) (st.1 ++ [t]) := by { unfold MapN; rw [numD_snoc]; simpa using hmp4 }; have hM4 := hM3.farMap hobj hg4 (by omega); have hR4 := hR3.farMap hobj hg4; have hbs4 := Nat.le_trans hbs hg4.size; clear hmp4 hg4)
                | (at_builtin; refine wpList_app1 elInt rfl (.tmp 65) (.tmp 67) rfl (w.heap.size + 1) _ st.1.length (ints st.1) rfl hR4.head #[.int .i64 t] _ rfl (by simp) rfl (by simp [Value.oneCell']) (by omega) (by omega) hbs4 ?_; intro g5 c5 w5 ho5 hg5 hb5 hlt5 _; have hM5 := hM4.farInt hR4.head hg5; have hMp5 := hMp4.far hR4.head hg5; have hR5 := hR4.appList rfl ho5 hg5 hb5; have hbs5 := Nat.le_trans hbs4 hg5.size; clear ho5 hg5 hb5)
                | (at_builtin; refine wpList_app1 elInt rfl (.tmp 69) (.tmp 71) rfl (w.heap.size + 1) _ k (ints st.2) rfl (by have := hR5.snd; rwa [HRL.out] at this) #[.int .i64 st.1.length] _ rfl (by simp) rfl (by simp [Value.oneCell']) (by omega) (by omega) hbs5 ?_; intro g6 c6 w6 ho6 hg6 hb6 _ _; have hM6 := hM5.farInt (by have := hR5.snd; rwa [HRL.out] at this) hg6; have hMp6 := hMp5.far hR5.snd hg6; have hR6 := hR5.appRow HRL.out.symm ho6 hg6 hb6; clear ho6 hg6 hb6))
              have HND2 : Hid ((st.1 ++ [t]).Nodup) := Lib.hid (List.nodup_append.2 ⟨HND.out, by simp, fun x hx y hy => by simp at hy; subst hy; intro he; subst he; exact HT.out hx⟩)
              go_roundw
              case rel => exact ⟨k + 1, g5, c5, g6, c6, by omega, by go_num, by rw [HSU.out, HS.out]; simp, rfl, by rw [HSU.out, HS.out]; exact hR6, hM6, by rw [HSU.out, HS.out]; exact hMp6, by rw [HSU.out, HS.out]; exact HND2.out, by rw [HSU.out, HS.out]; exact fun x hx => (List.mem_append.1 hx).elim (HOKs.out x) (fun hx => by simp at hx; subst hx; exact hOKt)⟩
              case measure => simp [intOf]; omega
            · have HS := Lib.hid (rowStep_old (st := st) HNX.out hfi)
              have hhas : has (numD st.1) (.int .i64 t) = true := by rw [HSP.out.1]; simp; omega
              have HAK := Lib.hid (HSP.out.2 (by omega))
              clear hfi
              go_wp2_with (first
                | (at_lookup; refine wpList_lookup_own_ok_int (H := Unit) _ rfl _ _ 96 rfl 3 3 .i64 keyInt Tryz.underlying96 Tryz.underlying3 (zeroInt _) (w.heap.size + 1 + 1) st.1.length (numD st.1) rfl hMp3 (.int .i64 t) (.int .i64 t) rfl (keyOf_int_mk Tryz.underlying3 (HOK.out _ hOKt)) ?_; intro c9 hat hwc; rw [hhas]; have hc9 : c9 = findI t st.1 0 := by { rw [HAK.out] at hat; injection hat with hat; injection hat with _ hat; exact hat.symm }; clear hat hwc; subst hc9)
                | (at_builtin; refine wpList_app1 elInt rfl (.tmp 69) (.tmp 71) rfl (w.heap.size + 1) _ k (ints st.2) rfl (by have := hR3.snd; rwa [HRL.out] at this) #[.int .i64 (findI t st.1 0)] _ rfl (by simp) rfl (by simp [Value.oneCell']) (by omega) (by omega) hbs ?_; intro g6 c6 w6 ho6 hg6 hb6 _ _; have hM6 := hM3.farInt (by have := hR3.snd; rwa [HRL.out] at this) hg6; have hMp6 := hMp3.far hR3.snd hg6; have hR6 := hR3.appRow HRL.out.symm ho6 hg6 hb6; clear ho6 hg6 hb6))
              go_roundw
              case rel => exact ⟨k + 1, g1, c1', g6, c6, by omega, by go_num, by rw [HSU.out, HS.out], rfl, by rw [HSU.out, HS.out]; exact hR6, hM6, by rw [HSU.out, HS.out]; exact hMp6, by rw [HSU.out, HS.out]; exact HND.out, by rw [HSU.out, HS.out]; exact HOKs.out⟩
              case measure => simp [intOf]; omega
        · obtain rfl : k = 9 := by omega
          have hRBx := hRB.below hM.below (by omega)
          have HRF := Lib.hid (H9.out rfl)
          clear H9
          by_cases hmo : most < st.1.length
          · have q0 := hRBx.cell 0; have q1 := hRBx.cell 1; have q2 := hRBx.cell 2
            simp at q0 q1 q2
            have z0 := hRBx.frozen 0; have z1 := hRBx.frozen 1; have z2 := hRBx.frozen 2
            have HE : Hid (numbR nx ac most first = none) := Lib.hid (by rw [hI.run]; exact numRun_fail (by have := hI.bd; omega) hlt (by rw [HRF.out]; exact hmo))
            have hbz : Below w.heap.size w wr := hW.trans (hM.below.mono (by omega))
            go_wp2
            refine bodyPost_ret (v := .tuple #[.agg #[.int .i64 0, .slice none 0 0, .slice none 0 0], .bool false]) (by simp [results, Tryz.results58, go_sem, q0, q1, q2]) rfl ?_
            refine ⟨_, by rw [HE.out]; rfl, by rw [HE.out]; exact AutV.none_ _ _, ?_⟩
            exact ((hbz.setCell (by simp) _).setCell (by simp) _).setCell (by simp) _
          · have HNn := Lib.hid (numRun_next (nx := nx) (ac := ac) (acc := acc) (nxs := fin.map Prod.snd) (f := most + 2 - i) (by have := hI.bd; omega) hlt (by rw [HRF.out]; exact hmo))
            have hci : wr.cell? ⟨g1, i, none⟩ = some (.int .i64 (ls[i]?.getD 0)) := by have := own_int_at hR.head hsl; rwa [HAT.out] at this
            have hg1 : g1 < wr.heap.size := (hR.head.lt g1 rfl).2
            have hbel : Below w.heap.size w wr := hW.trans (hM.below.mono (by omega))
            clear HAT HSU
            generalize ls[i]?.getD 0 = s0 at *
            have hii : (i : Int) < (st.1.length : Int) := by omega
            have x1 := hM.out.cell 1
            simp at x1
            have hgo := hM.out.lt
            have halb : acc.length ≤ 1001 := by have := hI.al; have := hI.bd; omega
            have hfl : (fin.map Prod.fst).length ≤ 1001 := by have := hI.fl; have := hI.bd; simp; omega
            have hbs : w.heap.size + 1 ≤ wr.heap.size := Nat.le_trans hM.size hM.below.size
            go_upto_region 22 with fail
            go_cut [87] (fun _ wx => ∃ va', NMo W2 (w.heap.size + 1) (acc ++ [ac s0]) (fin.map Prod.fst) va' vn go wx ∧ IRows wx (w.heap.size + 1) ((.slice (some ⟨g1, 0, none⟩) st.1.length c1', st.1) :: (.slice (some ⟨g2, 0, none⟩) 9 c2', st.2) :: fin) ∧ MapN wx (w.heap.size + 1 + 1) st.1)
            case first =>
              have hS0 : (fun w' : World => w'.cell? ⟨g1, i, none⟩ = some (.int .i64 s0) ∧ w'.cell? ⟨go, 1, none⟩ = some va) wr.drew := ⟨hci, x1⟩
              refine wp_region_X (fun w' : World => w'.cell? ⟨g1, i, none⟩ = some (.int .i64 s0) ∧ w'.cell? ⟨go, 1, none⟩ = some va) 11 (by kernel_rfl) ?_
              (refine wpX_take (i := 0) (v := ?_) (by simp only [List.getElem?_toArray, List.getElem?_cons_succ, List.getElem?_cons_zero]; rfl) (by kernel_rfl) (by kernel_rfl) (by kernel_rfl) (by kernel_rfl) (by exact fun _ _ _ h => h) (Or.inl ⟨by rfl, ?_⟩) (by assumption) ?_; rotate_left; (intro w hSw; (try dsimp only at hSw); go_simp); (try with_reducible rfl); (try simp only [Act.put, List.setIfInBounds_toArray, List.set_cons_zero, List.set_cons_succ]))
              (refine wpX_take (i := 1) (v := ?_) (by simp only [List.getElem?_toArray, List.getElem?_cons_succ, List.getElem?_cons_zero]; rfl) (by kernel_rfl) (by kernel_rfl) (by kernel_rfl) (by kernel_rfl) (by exact fun _ _ _ h => h) (Or.inl ⟨by rfl, ?_⟩) (by assumption) ?_; rotate_left; (intro w hSw; (try dsimp only at hSw); go_simp); (try with_reducible rfl); (try simp only [Act.put, List.setIfInBounds_toArray, List.set_cons_zero, List.set_cons_succ]))
              (refine wpX_take (i := 2) (v := ?_) (by simp only [List.getElem?_toArray, List.getElem?_cons_succ, List.getElem?_cons_zero]; rfl) (by kernel_rfl) (by kernel_rfl) (by kernel_rfl) (by kernel_rfl) (by exact fun _ _ _ h => h) (Or.inl ⟨by rfl, ?_⟩) (by assumption) ?_; rotate_left; (intro w hSw; (try dsimp only at hSw); go_simp); (try with_reducible rfl); (try simp only [Act.put, List.setIfInBounds_toArray, List.set_cons_zero, List.set_cons_succ]))
              (refine wpX_take (i := 3) (v := ?_) (by simp only [List.getElem?_toArray, List.getElem?_cons_succ, List.getElem?_cons_zero]; rfl) (by kernel_rfl) (by kernel_rfl) (by kernel_rfl) (by kernel_rfl) (by exact fun _ _ _ h => h) (Or.inl ⟨by rfl, ?_⟩) (by assumption) ?_; rotate_left; (intro w hSw; (try dsimp only at hSw); go_simp); (try with_reducible rfl); (try simp only [Act.put, List.setIfInBounds_toArray, List.set_cons_zero, List.set_cons_succ]))
              (refine wpX_take (i := 4) (v := ?_) (by simp only [List.getElem?_toArray, List.getElem?_cons_succ, List.getElem?_cons_zero]; rfl) (by kernel_rfl) (by kernel_rfl) (by kernel_rfl) (by kernel_rfl) (by exact fun _ _ _ h => h) (Or.inl ⟨by rfl, ?_⟩) (by assumption) ?_; rotate_left; (intro w hSw; (try dsimp only at hSw); go_simp); (try with_reducible rfl); (try simp only [Act.put, List.setIfInBounds_toArray, List.set_cons_zero, List.set_cons_succ]))
              (refine wpX_take (i := 5) (v := ?_) (by simp only [List.getElem?_toArray, List.getElem?_cons_succ, List.getElem?_cons_zero]; rfl) (by kernel_rfl) (by kernel_rfl) (by kernel_rfl) (by kernel_rfl) (by exact fun _ _ _ h => h) (Or.inl ⟨by rfl, ?_⟩) (by assumption) ?_; rotate_left; (intro w hSw; (try dsimp only at hSw); go_simp); (try with_reducible rfl); (try simp only [Act.put, List.setIfInBounds_toArray, List.set_cons_zero, List.set_cons_succ]))
              (refine wpX_take (i := 6) (v := ?_) (by simp only [List.getElem?_toArray, List.getElem?_cons_succ, List.getElem?_cons_zero]; rfl) (by kernel_rfl) (by kernel_rfl) (by kernel_rfl) (by kernel_rfl) (by exact fun _ _ _ h => h) (Or.inl ⟨by rfl, ?_⟩) (by assumption) ?_; rotate_left; (intro w hSw; (try dsimp only at hSw); go_simp); (try with_reducible rfl); (try simp only [Act.put, List.setIfInBounds_toArray, List.set_cons_zero, List.set_cons_succ]))
              refine wpX_one (i := 7) (by kernel_rfl) (by simp only [List.getElem?_toArray, List.getElem?_cons_succ, List.getElem?_cons_zero]; rfl) (fun K hK => ?_)
              go_simp
              rw [show fa.push (Value.int .i64 s0) ++ ca = fa ++ (#[.int .i64 s0] ++ ca) from by simp]
              refine (HA.out s0 wr.drew hOK0 hbel.drew).mono ?_; rintro e w3 ⟨rfl, hb3⟩
              have hM3 := hM.drew.bel hb3
              have hR3 := hR.drew.below hb3
              have hMp3 := MapN.bel (w := wr.drew) hMp hb3
              have hbs3 := Nat.le_trans hbs hb3.size
              have s1 : (fun w' : World => w'.cell? ⟨g1, i, none⟩ = some (.int .i64 s0) ∧ w'.cell? ⟨go, 1, none⟩ = some va) w3 := ⟨(hb3.cell (p := ⟨g1, i, none⟩) hg1).trans hci, hM3.out.cell 1⟩
              (refine hK.out _ _ (Or.inr s1) ?_; clear hK; (try simp only [Act.put, List.setIfInBounds_toArray, List.set_cons_zero, List.set_cons_succ]))
              have s2 : (fun w' : World => w'.cell? ⟨g1, i, none⟩ = some (.int .i64 s0) ∧ w'.cell? ⟨go, 1, none⟩ = some va) (w3.alloc (.cells #[.bool (ac s0)] 4)) := ⟨(Below.cell (below_alloc w3 _) (p := ⟨g1, i, none⟩) (Nat.lt_of_lt_of_le hg1 hb3.size)).trans s1.1, (hM3.alloc _).out.cell 1⟩
              refine wpX_one (i := 8) (by kernel_rfl) (by simp only [List.getElem?_toArray, List.getElem?_cons_succ, List.getElem?_cons_zero]; rfl) (fun K hK => ?_)
              go_simp
              (refine hK.out _ _ (Or.inr s2) ?_; clear hK; (try simp only [Act.put, List.setIfInBounds_toArray, List.set_cons_zero, List.set_cons_succ]))
              refine wpX_one (i := 9) (by kernel_rfl) (by simp only [List.getElem?_toArray, List.getElem?_cons_succ, List.getElem?_cons_zero]; rfl) (fun K hK => ?_)
              refine step_app1 elBool (by rfl) (.tmp 79) (.tmp 86) (by rfl) (w.heap.size + 1) va acc.length (bools acc) (by rfl) hM3.acc #[.bool (ac s0)] _ (by rfl) (by simp) rfl (by simp [Value.oneCell']) (by omega) (by omega) hbs3 ?_
              intro g6 c6 w6 ho6 hg6 hb6 _ _
              have hM6 := hM3.putAcc (b := ac s0) (by rw [← bools_snoc]; simpa using ho6) hg6
              have hR6 := hR3.far hM3.acc hg6 (by decide)
              have hMp6 := hMp3.far hM3.acc hg6
              have ho1 := hM3.out.grown hg6 (own_blk_ne hM3.acc hM3.out (by decide))
              have y1 := ho1.cell 1
              have z1 := ho1.frozen 1
              have s3 : (fun w' : World => w'.cell? ⟨g1, i, none⟩ = some (.int .i64 s0) ∧ w'.cell? ⟨go, 1, none⟩ = some va) w6 := ⟨hg6.cell s1.1 (by have := own_ne hR3.head hM3.acc (by decide); simpa [Value.ownBlock] using this), y1⟩
              have hbk := hR6.farBlk (w' := w6.setCell ⟨go, 1, none⟩ (.slice (some ⟨g6, 0, none⟩) (acc.length + 1) c6)) ho1 ⟨rfl, rfl, rfl, by simp, fun k hk hne => Below.heap_setCell w6 _ _ k (fun e => hne (by rw [e]))⟩ (by decide)
              have hbm := hMp6.farBlk (w' := w6.setCell ⟨go, 1, none⟩ (.slice (some ⟨g6, 0, none⟩) (acc.length + 1) c6)) ho1 (fun k hk hne => Below.heap_setCell w6 _ _ k hne)
              (refine hK.out _ _ (Or.inr s3) ?_; clear hK; (try simp only [Act.put, List.setIfInBounds_toArray, List.set_cons_zero, List.set_cons_succ]))
              simp at y1
              (refine wpX_take (i := 10) (v := ?_) (by simp only [List.getElem?_toArray, List.getElem?_cons_succ, List.getElem?_cons_zero]; rfl) (by kernel_rfl) (by kernel_rfl) (by kernel_rfl) (by kernel_rfl) (by exact fun _ _ _ h => h) (Or.inl ⟨by rfl, ?_⟩) (by assumption) ?_; rotate_left; (intro w hSw; (try dsimp only at hSw); go_simp); (try with_reducible rfl); (try simp only [Act.put, List.setIfInBounds_toArray, List.set_cons_zero, List.set_cons_succ]))
              refine wpX_one (i := 11) (by kernel_rfl) (by simp only [List.getElem?_toArray, List.getElem?_cons_succ, List.getElem?_cons_zero]; rfl) (fun K hK => ?_)
              go_simp
              (refine hK.out _ _ (Or.inl rfl) ?_; clear hK; (try simp only [Act.put, List.setIfInBounds_toArray, List.set_cons_zero, List.set_cons_succ]))
              refine wpX_done (by kernel_rfl) ?_ _
              go_wp2_with fail
              go_meet
              exact ⟨_, hM6, hbk, hbm⟩
            case rest =>
              obtain ⟨va', hM7, hR7, hMp7⟩ := hcut
              have hbs7 : w.heap.size + 1 ≤ wc.heap.size := Nat.le_trans hM7.size hM7.below.size
              have x4 := hM7.out.cell 2
              simp at x4
              go_wp2_with (at_builtin; refine wpList_app1 elRow rfl (.tmp 90) (.tmp 92) rfl (w.heap.size + 1) vn (fin.map Prod.fst).length (fin.map Prod.fst) rfl hM7.next #[.slice (some ⟨g2, 0, none⟩) 9 c2'] _ rfl (by simp) rfl (by simp [Value.oneCell']) (by omega) (by omega) hbs7 ?_; intro g8 c8 w8 ho8 hg8 hb8 _ _; have ho9 := hM7.out.grown hg8 (own_blk_ne hM7.next hM7.out (by decide)); have y2 := ho9.cell 2; have z2 := ho9.frozen 2; simp at y2)
              have hM8 := hM7.putNext (u := .slice (some ⟨g2, 0, none⟩) 9 c2') (by simpa using ho8) hg8
              have hR8 := (hR7.far hM7.next hg8 (by decide)).farBlk (w' := w8.setCell ⟨go, 2, none⟩ (.slice (some ⟨g8, 0, none⟩) ((fin.map Prod.fst).length + 1) c8)) ho9 ⟨rfl, rfl, rfl, by simp, fun k hk hne => Below.heap_setCell w8 _ _ k (fun e => hne (by rw [e]))⟩ (by decide)
              have hMp8 := (hMp7.far hM7.next hg8).farBlk (w' := w8.setCell ⟨go, 2, none⟩ (.slice (some ⟨g8, 0, none⟩) ((fin.map Prod.fst).length + 1) c8)) ho9 (fun k hk hne => Below.heap_setCell w8 _ _ k hne)
              have hR9 := hR8.perm (List.Perm.cons _ (List.perm_append_singleton _ _).symm)
              have HRun : Hid (numbR nx ac most first = numRun nx ac most (most + 2 - (i + 1)) (i + 1) st.1 (acc ++ [ac s0]) ((fin ++ [((Value.slice (some ⟨g2, 0, none⟩) 9 c2' : Value), st.2)]).map Prod.snd)) := Lib.hid (by
                rw [hI.run, HNn.out, HRF.out, List.map_append, show most + 2 - i - 1 = most + 2 - (i + 1) from by omega]; rfl)
              go_roundw
              case rel => exact ⟨i + 1, st.1, acc ++ [ac s0], fin ++ [(.slice (some ⟨g2, 0, none⟩) 9 c2', st.2)], va', _, g1, c1', by go_num, rfl, HRun.out, by omega, by left; omega, by rw [List.map_append]; simpa using hM8, by simpa using hR9, by simp [hI.al], by simp [hI.fl], by simpa using hMp8, HND.out, HOKs.out⟩
              case measure => simp [intOf]; have := hI.bd; omega
    · have hRBx := hRB.below hI.mo.below (by omega)
      have q0 := hRBx.cell 0; have q1 := hRBx.cell 1; have q2 := hRBx.cell 2
      have o0 := hI.mo.out.cell 0; have o1 := hI.mo.out.cell 1; have o2 := hI.mo.out.cell 2
      simp at q0 q1 q2 o0 o1 o2
      have z0 := hRBx.frozen 0; have z1 := hRBx.frozen 1; have z2 := hRBx.frozen 2
      have HE : Hid (numbR nx ac most first = some (acc, fin.map Prod.snd)) := Lib.hid (by rw [hI.run]; exact numRun_done (by have := hI.bd; have := hI.le; omega) hlt)
      have hbz : Below w.heap.size w wo := hW.trans (hI.mo.below.mono (by omega))
      have hA := (hI.mo.aut (fin := fin) rfl hI.rows.tail)
      obtain ⟨A3, c3, rfl⟩ := own_form hI.mo.acc
      obtain ⟨A4, c4, rfl⟩ := own_form hI.mo.next
      go_wp2
      refine bodyPost_ret (v := .tuple #[.agg #[.int .i64 0, .slice A3 acc.length c3, .slice A4 (fin.map Prod.fst).length c4], .bool true]) (by simp [results, Tryz.results58, go_sem, q0, q1, q2]) rfl ?_
      refine ⟨_, by rw [HE.out]; rfl, ?_, ((hbz.setCell (by simp) _).setCell (by simp) _).setCell (by simp) _⟩
      rw [HE.out]
      refine (hA.keep (w' := _) (by simp) (fun b hb _ => ?_)).weak (fun b hb _ => by have hb : w.heap.size + 1 ≤ b := hb; show w.heap.size ≤ b; omega)
      have hb : w.heap.size + 1 ≤ b := hb
      rw [Below.heap_setCell _ _ _ _ (by simp; omega), Below.heap_setCell _ _ _ _ (by simp; omega), Below.heap_setCell _ _ _ _ (by simp; omega)]
end Go.Proofs.YtmnhpbbapkcdjaaGreat
