
/-
  Plain facts on lists of versions: what a check of a list adds up, merged lists (of two, of three, with oneself), joined counts. No program in sight.
-/
import Derived.Test.YtldnpfkgehgfpaaDoorPlainSib
namespace Go.Proofs.YtldnpfkgehgfpaaDoor

/-! ## A list is checked from its head on -/
/-- The first k are ok, and ascend. -/
def okTo (ss : List Sb) (k : Nat) : Prop := ∀ j x, j < k → ss[j]? = some x → sibOk x = true ∧ ∀ i y, i + 1 = j → ss[i]? = some y → cmpS y x = -1
theorem okTo_zero (ss : List Sb) : okTo ss 0 := fun _ _ h => absurd h (Nat.not_lt_zero _)
theorem okTo_succ {ss : List Sb} {k : Nat} {x : Sb} (h : okTo ss k) (hx : ss[k]? = some x) (h1 : sibOk x = true) (h2 : ∀ i y, i + 1 = k → ss[i]? = some y → cmpS y x = -1) : okTo ss (k + 1) := by
  intro j z hj hz
  by_cases e : j = k
  · subst e
    rw [hx] at hz
    injection hz with hz
    subst hz
    exact ⟨h1, h2⟩
  · exact h j z (by omega) hz
theorem asc_of_okTo : ∀ {ss : List Sb}, okTo ss ss.length → Asc ss := by
  intro ss h
  apply asc_of_B
  have : ∀ (n : Nat) (l : List Sb), l.length = n → (∀ i x y, l[i]? = some x → l[i + 1]? = some y → cmpS x y = -1) → ascB l = true := by
    intro n
    induction n with
    | zero => intro l hl _; cases l with | nil => rfl | cons _ _ => simp at hl
    | succ n ih =>
      intro l hl hp
      match l, hl with
      | [x], _ => rfl
      | x :: y :: r, hl =>
        simp only [ascB, Bool.and_eq_true, beq_iff_eq]
        exact ⟨hp 0 x y rfl rfl, ih (y :: r) (by simpa using hl) fun i a b ha hb => hp (i + 1) a b (by simpa using ha) (by simpa using hb)⟩
  refine this _ ss rfl fun i x y hx hy => ?_
  have hlt : i + 1 < ss.length := by
    rcases Nat.lt_or_ge (i + 1) ss.length with h | h
    · exact h
    · rw [List.getElem?_eq_none h] at hy; cases hy
  exact (h (i + 1) y hlt hy).2 i x rfl hx
theorem okTo_mem {ss : List Sb} (h : okTo ss ss.length) : ∀ x ∈ ss, sibOk x = true := by
  intro x hx
  obtain ⟨j, hj, rfl⟩ := List.getElem_of_mem hx
  exact (h j _ hj (List.getElem?_eq_getElem hj)).1
theorem sibsOk_of_okTo {ss : List Sb} (h : okTo ss ss.length) (hk : ∀ x ∈ ss, ∀ y ∈ ss, known x y = false) : sibsOk ss = (decide (1 ≤ ss.length) && decide (ss.length ≤ 12)) := by
  rw [Bool.eq_iff_iff, sibsOk_iff, Bool.and_eq_true, decide_eq_true_eq, decide_eq_true_eq]
  exact ⟨fun h => h.2.2.2, fun hl => ⟨okTo_mem h, asc_of_okTo h, hk, hl⟩⟩
theorem sibsOk_bad1 {ss : List Sb} {k : Nat} {x : Sb} (hx : ss[k]? = some x) (h : sibOk x = false) : sibsOk ss = false := by
  rw [Bool.eq_false_iff]
  intro hs
  have := (sibsOk_iff.1 hs).1 x (List.mem_of_getElem? hx)
  rw [h] at this; cases this
theorem asc_at {ss : List Sb} (h : Asc ss) {i j : Nat} {x y : Sb} (hij : i < j) (hx : ss[i]? = some x) (hy : ss[j]? = some y) : cmpS x y = -1 := by
  obtain ⟨hi, rfl⟩ := List.getElem?_eq_some_iff.1 hx
  obtain ⟨hj, rfl⟩ := List.getElem?_eq_some_iff.1 hy
  exact List.pairwise_iff_getElem.1 h i j hi hj hij
theorem sibsOk_bad2 {ss : List Sb} {i : Nat} {x y : Sb} (hy : ss[i]? = some y) (hx : ss[i + 1]? = some x) (h : cmpS y x ≠ -1) : sibsOk ss = false := by
  rw [Bool.eq_false_iff]
  intro hs
  exact h (asc_at (sibsOk_iff.1 hs).2.1 (Nat.lt_succ_self i) hy hx)
theorem sibsOk_bad3 {ss : List Sb} {x y : Sb} (hx : x ∈ ss) (hy : y ∈ ss) (h : known x y = true) : sibsOk ss = false := by
  rw [Bool.eq_false_iff]
  intro hs
  have := (sibsOk_iff.1 hs).2.2.1 x hx y hy
  rw [h] at this; cases this

/-- What the program asks of two: the one's counts are in the other's, and not the same. -/
def sup (x y : Sb) : Bool := vvIn x.vv y.vv && !decide (x.vv = y.vv)
theorem sup_known {x y : Sb} (hx : vvOk x.vv = true) (hy : vvOk y.vv = true) : sup x y = known x y := by
  unfold sup known
  by_cases h1 : vvIn x.vv y.vv = true
  · by_cases h2 : vvIn y.vv x.vv = true
    · have e := vvIn_anti hx hy h1 h2
      rw [h1, h2, e]; simp
    · have e : x.vv ≠ y.vv := fun e => h2 (by rw [e]; exact vvIn_same hy)
      have h2' : vvIn y.vv x.vv = false := by simpa using h2
      rw [h1, h2']; simp [e]
  · have h1' : vvIn x.vv y.vv = false := by simpa using h1
    rw [h1']; simp

/-! ## Merged lists -/
theorem len_putL (s : Sb) : ∀ l : List Sb, (putL s l).length ≤ l.length + 1
  | [] => by simp [putL]
  | x :: r => by
    have := len_putL s r
    unfold putL
    split
    · simp
    · split <;> simp <;> omega
theorem len_allL (b : List Sb) : ∀ a : List Sb, (allL a b).length ≤ a.length + b.length := by
  induction b with
  | nil => intro a; simp [allL]
  | cons s b ih =>
    intro a
    have h1 : (allL a (s :: b)).length = (allL (putL s a) b).length := rfl
    have h2 := ih (putL s a)
    have h3 := len_putL s a
    rw [h1]; simp; omega
theorem len_mergeL (a b : List Sb) : (mergeL a b).length ≤ a.length + b.length := by
  have h1 : (mergeL a b).length ≤ (allL a b).length := List.length_filter_le _ _
  have h2 := len_allL b a
  omega

/-- Merged with a merged list: all that no other one knows, of the three. -/
theorem mem_merge_left {a b c : List Sb} (hv : ∀ x, x ∈ a ∨ x ∈ b → vvOk x.vv = true) (hc : ∀ x ∈ c, vvOk x.vv = true) {x : Sb} :
    x ∈ mergeL (mergeL a b) c ↔ (x ∈ a ∨ x ∈ b ∨ x ∈ c) ∧ ∀ y, y ∈ a ∨ y ∈ b ∨ y ∈ c → known x y = false := by
  rw [mem_mergeL]
  have hvx : ∀ x, x ∈ a ∨ x ∈ b ∨ x ∈ c → vvOk x.vv = true := fun x h => by
    rcases h with h | h | h
    · exact hv x (.inl h)
    · exact hv x (.inr h)
    · exact hc x h
  constructor
  · rintro ⟨h1, h2⟩
    have hx : x ∈ a ∨ x ∈ b ∨ x ∈ c := by
      rcases h1 with h | h
      · rcases (mem_mergeL.1 h).1 with h | h
        · exact .inl h
        · exact .inr (.inl h)
      · exact .inr (.inr h)
    refine ⟨hx, fun y hy => ?_⟩
    have hab : ∀ y, y ∈ a ∨ y ∈ b → known x y = false := by
      intro y hy
      rw [Bool.eq_false_iff]
      intro hk
      obtain ⟨z, hz, hzk, hzy⟩ := above (l := allL a b) (fun x hx => hv x (mem_allL.1 hx)) _ y (mem_allL.2 hy) (Nat.le_refl _)
      have hzm : z ∈ mergeL a b := mem_mergeL.2 ⟨mem_allL.1 hz, fun u hu => isKnown_false.1 hzk u (mem_allL.2 hu)⟩
      have hxz : known x z = true := by
        rcases hzy with rfl | hzy
        · exact hk
        · exact known_trans (hvx x hx) (hv y hy) (hv z (mem_allL.1 hz)) hk hzy
      have := h2 z (.inl hzm)
      rw [hxz] at this; cases this
    rcases hy with h | h | h
    · exact hab y (.inl h)
    · exact hab y (.inr h)
    · exact h2 y (.inr h)
  · rintro ⟨h1, h2⟩
    refine ⟨?_, fun y hy => ?_⟩
    · rcases h1 with h | h | h
      · exact .inl (mem_mergeL.2 ⟨.inl h, fun y hy => h2 y (by rcases hy with h | h <;> simp [h])⟩)
      · exact .inl (mem_mergeL.2 ⟨.inr h, fun y hy => h2 y (by rcases hy with h | h <;> simp [h])⟩)
      · exact .inr h
    · rcases hy with h | h
      · rcases (mem_mergeL.1 h).1 with h | h
        · exact h2 y (.inl h)
        · exact h2 y (.inr (.inl h))
      · exact h2 y (.inr (.inr h))
theorem mem_merge_swap {a b : List Sb} {x : Sb} : x ∈ mergeL a b ↔ x ∈ mergeL b a := by
  rw [mem_mergeL, mem_mergeL]
  constructor
  · rintro ⟨h1, h2⟩; exact ⟨h1.symm, fun y hy => h2 y hy.symm⟩
  · rintro ⟨h1, h2⟩; exact ⟨h1.symm, fun y hy => h2 y hy.symm⟩
theorem merge_comm {a b : List Sb} (ha : Asc a) (hb : Asc b) : mergeL a b = mergeL b a :=
  asc_ext (asc_mergeL ha) (asc_mergeL hb) fun _ => mem_merge_swap
theorem merge_assoc {a b c : List Sb} (ha : Asc a) (va : ∀ x ∈ a, vvOk x.vv = true) (vb : ∀ x ∈ b, vvOk x.vv = true) (vc : ∀ x ∈ c, vvOk x.vv = true) :
    mergeL a (mergeL b c) = mergeL (mergeL a b) c := by
  refine asc_ext (asc_mergeL ha) (asc_mergeL (asc_mergeL ha)) fun x => ?_
  rw [mem_merge_swap, mem_merge_left (fun x h => h.elim (vb x) (vc x)) va, mem_merge_left (fun x h => h.elim (va x) (vb x)) vc]
  constructor
  · rintro ⟨h1, h2⟩
    exact ⟨by rcases h1 with h | h | h <;> simp [h], fun y hy => h2 y (by rcases hy with h | h | h <;> simp [h])⟩
  · rintro ⟨h1, h2⟩
    exact ⟨by rcases h1 with h | h | h <;> simp [h], fun y hy => h2 y (by rcases hy with h | h | h <;> simp [h])⟩
theorem merge_again {a b : List Sb} (ha : Asc a) (va : ∀ x ∈ a, vvOk x.vv = true) (vb : ∀ x ∈ b, vvOk x.vv = true) : mergeL (mergeL a b) b = mergeL a b := by
  refine asc_ext (asc_mergeL (asc_mergeL ha)) (asc_mergeL ha) fun x => ?_
  rw [mem_merge_left (fun x h => h.elim (va x) (vb x)) vb, mem_mergeL]
  constructor
  · rintro ⟨h1, h2⟩
    exact ⟨by rcases h1 with h | h | h <;> simp [h], fun y hy => h2 y (by rcases hy with h | h <;> simp [h])⟩
  · rintro ⟨h1, h2⟩
    exact ⟨by rcases h1 with h | h <;> simp [h], fun y hy => h2 y (by rcases hy with h | h | h <;> simp [h])⟩
/-- A list that is ok has already what is in it. -/
theorem merge_sub {a b : List Sb} (ha : sibsOk a = true) (hb : ∀ x ∈ b, x ∈ a) : mergeL a b = a := by
  obtain ⟨a1, a2, a3, a4, a5⟩ := sibsOk_iff.1 ha
  refine asc_ext (asc_mergeL a2) a2 fun x => ?_
  rw [mem_mergeL]
  constructor
  · rintro ⟨h1, _⟩; exact h1.elim id (hb x)
  · intro h; exact ⟨.inl h, fun y hy => a3 x h y (hy.elim id (hb y))⟩

/-! ## A list in another order, without doubles -/
/-- Of a list that does not descend, all that differ from what stands ahead. -/
def compactL : List Sb → List Sb
  | x :: y :: r => if cmpS y x = 0 then compactL (y :: r) else x :: compactL (y :: r)
  | l => l
theorem mem_compactL {x : Sb} : ∀ {l : List Sb}, x ∈ compactL l ↔ x ∈ l
  | [] => by simp [compactL]
  | [a] => by simp [compactL]
  | a :: b :: r => by
    have ih := mem_compactL (x := x) (l := b :: r)
    unfold compactL
    split
    · rename_i h
      have e := cmpS_good.eq _ _ h
      subst e
      rw [ih]; simp
    · rw [List.mem_cons, ih]; simp
theorem asc_compactL : ∀ {l : List Sb}, (l.Pairwise fun a b => cmpS b a ≠ -1) → Asc (compactL l)
  | [], _ => List.Pairwise.nil
  | [a], _ => List.pairwise_singleton _ _
  | a :: b :: r, h => by
    have p := List.pairwise_cons.1 h
    have ih := asc_compactL p.2
    unfold compactL
    split
    · exact ih
    · rename_i hne
      refine List.pairwise_cons.2 ⟨fun z hz => ?_, ih⟩
      have hz' := mem_compactL.1 hz
      have n1 := p.1 z hz'
      have n2 := p.1 b (by simp)
      have o1 := cmpS_good.one a z
      have an := cmpS_good.anti a z
      rcases o1 with h | h | h
      · exact h
      · have e := cmpS_good.eq _ _ h
        subst e
        have ab := cmpS_good.one b a
        rcases List.mem_cons.1 hz' with rfl | hz''
        · exact absurd (cmpS_good.same _) hne
        · have := (List.pairwise_cons.1 p.2).1 a hz''
          have an2 := cmpS_good.anti a b
          omega
      · omega
/-- What the program's merge makes is the merged list. -/
theorem merge_of_sorted {a b l : List Sb} (ha : Asc a) (hs : l.Pairwise fun a b => cmpS b a ≠ -1) (hm : ∀ x, x ∈ l ↔ x ∈ a ∨ x ∈ b) (hv : ∀ x, x ∈ a ∨ x ∈ b → vvOk x.vv = true) :
    (compactL l).filter (fun x => !(compactL l).any (sup x)) = mergeL a b := by
  have e : compactL l = allL a b := asc_ext (asc_compactL hs) (asc_allL ha) fun x => by rw [mem_compactL, hm, mem_allL]
  rw [e]
  unfold mergeL
  refine List.filter_congr fun x hx => ?_
  unfold isKnown
  congr 1
  rw [Bool.eq_iff_iff, List.any_eq_true, List.any_eq_true]
  have hvx := hv x (mem_allL.1 hx)
  constructor
  · rintro ⟨y, hy, h⟩; exact ⟨y, hy, by rw [← sup_known hvx (hv y (mem_allL.1 hy))]; exact h⟩
  · rintro ⟨y, hy, h⟩; exact ⟨y, hy, by rw [sup_known hvx (hv y (mem_allL.1 hy))]; exact h⟩

/-! ## Joined counts -/
theorem vvJ3 {a b c x y z : Int} : vvJoin [a, b, c] [x, y, z] = [max a x, max b y, max c z] := by simp [vvJoin]
theorem vvJoin_ok {u v : List Int} (hu : vvOk u = true) (hv : vvOk v = true) : vvOk (vvJoin u v) = true := by
  obtain ⟨a, b, c, rfl, _⟩ := vvOk_form hu
  obtain ⟨x, y, z, rfl, _⟩ := vvOk_form hv
  rw [vvJ3]; exact vvOk_mk (by omega)
theorem vvIn_join_left {u v : List Int} (hu : vvOk u = true) (hv : vvOk v = true) : vvIn u (vvJoin u v) = true := by
  obtain ⟨a, b, c, rfl, _⟩ := vvOk_form hu
  obtain ⟨x, y, z, rfl, _⟩ := vvOk_form hv
  rw [vvJ3, vvIn3]; omega
theorem vvIn_join_right {u v : List Int} (hu : vvOk u = true) (hv : vvOk v = true) : vvIn v (vvJoin u v) = true := by
  obtain ⟨a, b, c, rfl, _⟩ := vvOk_form hu
  obtain ⟨x, y, z, rfl, _⟩ := vvOk_form hv
  rw [vvJ3, vvIn3]; omega
theorem vvIn_join {u v w : List Int} (hu : vvOk u = true) (hv : vvOk v = true) (hw : vvOk w = true) (h1 : vvIn u w = true) (h2 : vvIn v w = true) : vvIn (vvJoin u v) w = true := by
  obtain ⟨a, b, c, rfl, _⟩ := vvOk_form hu
  obtain ⟨x, y, z, rfl, _⟩ := vvOk_form hv
  obtain ⟨p, q, r, rfl, _⟩ := vvOk_form hw
  rw [vvIn3] at h1 h2
  rw [vvJ3, vvIn3]; omega
def joinTo (ss : List Sb) (k : Nat) : List Int := (ss.take k).foldl (fun v s => vvJoin v s.vv) [0, 0, 0]
def joinAll (ss : List Sb) : List Int := ss.foldl (fun v s => vvJoin v s.vv) [0, 0, 0]
theorem joinTo_zero (ss : List Sb) : joinTo ss 0 = [0, 0, 0] := by simp [joinTo]
theorem joinTo_succ {ss : List Sb} {k : Nat} {x : Sb} (hx : ss[k]? = some x) : joinTo ss (k + 1) = vvJoin (joinTo ss k) x.vv := by
  obtain ⟨hk, rfl⟩ := List.getElem?_eq_some_iff.1 hx
  unfold joinTo
  rw [List.take_succ_eq_append_getElem hk, List.foldl_append]
  rfl
theorem joinTo_all {ss : List Sb} {k : Nat} (h : ss.length = k) : joinTo ss k = joinAll ss := by unfold joinTo joinAll; rw [List.take_of_length_le (by omega)]
theorem vvOk_zero : vvOk [0, 0, 0] = true := by decide
theorem fold_join : ∀ (ss : List Sb) (v : List Int), vvOk v = true → (∀ x ∈ ss, vvOk x.vv = true) →
    vvOk (ss.foldl (fun v s => vvJoin v s.vv) v) = true ∧ vvIn v (ss.foldl (fun v s => vvJoin v s.vv) v) = true ∧ (∀ x ∈ ss, vvIn x.vv (ss.foldl (fun v s => vvJoin v s.vv) v) = true) ∧
    ∀ w, vvOk w = true → vvIn v w = true → (∀ x ∈ ss, vvIn x.vv w = true) → vvIn (ss.foldl (fun v s => vvJoin v s.vv) v) w = true
  | [], v, hv, _ => ⟨hv, vvIn_same hv, by simp, fun _ _ h _ => h⟩
  | x :: r, v, hv, hx => by
    have hx0 := hx x (by simp)
    have hr : ∀ y ∈ r, vvOk y.vv = true := fun y hy => hx y (by simp [hy])
    obtain ⟨h1, h2, h3, h4⟩ := fold_join r (vvJoin v x.vv) (vvJoin_ok hv hx0) hr
    refine ⟨h1, vvIn_trans hv (vvJoin_ok hv hx0) h1 (vvIn_join_left hv hx0) h2, fun y hy => ?_, fun w hw hvw hall => ?_⟩
    · rcases List.mem_cons.1 hy with rfl | hy
      · exact vvIn_trans hx0 (vvJoin_ok hv hx0) h1 (vvIn_join_right hv hx0) h2
      · exact h3 y hy
    · exact h4 w hw (vvIn_join hv hx0 hw hvw (hall x (by simp))) fun y hy => hall y (by simp [hy])
theorem joinAll_ok {ss : List Sb} (h : ∀ x ∈ ss, vvOk x.vv = true) : vvOk (joinAll ss) = true := (fold_join ss _ vvOk_zero h).1
theorem joinTo_ok {ss : List Sb} (h : ∀ x ∈ ss, vvOk x.vv = true) (k : Nat) : vvOk (joinTo ss k) = true := joinAll_ok fun x hx => h x (List.mem_of_mem_take hx)
theorem joinAll_in {ss : List Sb} (h : ∀ x ∈ ss, vvOk x.vv = true) {x : Sb} (hx : x ∈ ss) : vvIn x.vv (joinAll ss) = true := (fold_join ss _ vvOk_zero h).2.2.1 x hx
theorem zero_in {v : List Int} (h : vvOk v = true) : vvIn [0, 0, 0] v = true := by
  obtain ⟨a, b, c, rfl, _⟩ := vvOk_form h
  rw [vvIn3]; omega
theorem joinAll_least {ss : List Sb} (h : ∀ x ∈ ss, vvOk x.vv = true) {w : List Int} (hw : vvOk w = true) (hall : ∀ x ∈ ss, vvIn x.vv w = true) : vvIn (joinAll ss) w = true :=
  (fold_join ss _ vvOk_zero h).2.2.2 w hw (zero_in hw) hall
theorem join_merge {a b : List Sb} (ha : ∀ x ∈ a, vvOk x.vv = true) (hb : ∀ x ∈ b, vvOk x.vv = true) : joinAll (mergeL a b) = vvJoin (joinAll a) (joinAll b) := by
  have hall : ∀ x, x ∈ a ∨ x ∈ b → vvOk x.vv = true := fun x h => h.elim (ha x) (hb x)
  have hm : ∀ x ∈ mergeL a b, vvOk x.vv = true := fun x hx => hall x (mem_mergeL.1 hx).1
  have ja := joinAll_ok ha
  have jb := joinAll_ok hb
  have jm := joinAll_ok hm
  have jj := vvJoin_ok ja jb
  have up : ∀ x, x ∈ a ∨ x ∈ b → vvIn x.vv (joinAll (mergeL a b)) = true := by
    intro x hx
    obtain ⟨y, hy, hyk, hyx⟩ := above (l := allL a b) (fun x hx => hall x (mem_allL.1 hx)) _ x (mem_allL.2 hx) (Nat.le_refl _)
    have hym : y ∈ mergeL a b := mem_mergeL.2 ⟨mem_allL.1 hy, fun u hu => isKnown_false.1 hyk u (mem_allL.2 hu)⟩
    have h1 := joinAll_in hm hym
    rcases hyx with rfl | hk
    · exact h1
    · exact vvIn_trans (hall x hx) (hm y hym) jm (known_iff.1 hk).1 h1
  refine vvIn_anti jm jj ?_ ?_
  · refine joinAll_least hm jj fun x hx => ?_
    rcases (mem_mergeL.1 hx).1 with h | h
    · exact vvIn_trans (ha x h) ja jj (joinAll_in ha h) (vvIn_join_left ja jb)
    · exact vvIn_trans (hb x h) jb jj (joinAll_in hb h) (vvIn_join_right ja jb)
  · exact vvIn_join ja jb jm (joinAll_least ha jm fun x hx => up x (.inl hx)) (joinAll_least hb jm fun x hx => up x (.inr hx))

/-- Who knows all is alone. -/
theorem merge_above {l : List Sb} {v : List Int} {one : Sb} (hl : Asc l) (vl : ∀ x ∈ l, vvOk x.vv = true) (hv : vvOk v = true) (ho : vvOk one.vv = true) (hin : ∀ x ∈ l, vvIn x.vv v = true) (h1 : vvIn v one.vv = true) (h2 : vvIn one.vv v = false) :
    mergeL l [one] = [one] := by
  have hk : ∀ x ∈ l, known x one = true := by
    intro x hx
    refine known_iff.2 ⟨vvIn_trans (vl x hx) hv ho (hin x hx) h1, ?_⟩
    rw [Bool.eq_false_iff]
    intro h
    have := vvIn_trans ho (vl x hx) hv h (hin x hx)
    rw [h2] at this; cases this
  have hk' : ∀ x ∈ l, known one x = false := by
    intro x hx
    rw [Bool.eq_false_iff]
    intro h
    have := vvIn_trans ho (vl x hx) hv (known_iff.1 h).1 (hin x hx)
    rw [h2] at this; cases this
  refine asc_ext (asc_mergeL hl) (List.pairwise_singleton _ _) fun x => ?_
  rw [mem_mergeL]
  simp only [List.mem_singleton]
  constructor
  · rintro ⟨hx | hx, h⟩
    · have := h one (.inr rfl)
      rw [hk x hx] at this; cases this
    · exact hx
  · rintro rfl
    exact ⟨.inr rfl, fun y hy => hy.elim (hk' y) fun e => by rw [e]; exact known_self⟩

/-! ## A list without one, and with one twice -/
theorem sibsOk_less {l m : List Sb} (h : sibsOk l = true) (hs : m.Sublist l) : sibsOk m = decide (1 ≤ m.length) := by
  obtain ⟨a1, a2, a3, a4, a5⟩ := sibsOk_iff.1 h
  have := hs.length_le
  rw [Bool.eq_iff_iff, sibsOk_iff, decide_eq_true_eq]
  exact ⟨fun h => h.2.2.2.1, fun h1 => ⟨fun x hx => a1 x (hs.subset hx), a2.sublist hs, fun x hx y hy => a3 x (hs.subset hx) y (hs.subset hy), h1, by omega⟩⟩
theorem sibsOk_twice {l : List Sb} {x : Sb} (hx : x ∈ l) : sibsOk (l ++ [x]) = false := by
  rw [Bool.eq_false_iff]
  intro h
  have := (List.pairwise_append.1 (sibsOk_iff.1 h).2.1).2.2 x hx x (by simp)
  rw [cmpS_good.same] at this
  omega

end Go.Proofs.YtldnpfkgehgfpaaDoor
