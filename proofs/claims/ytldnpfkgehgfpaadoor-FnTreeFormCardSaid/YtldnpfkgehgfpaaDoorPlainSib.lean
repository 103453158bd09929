
/-
  Plain facts on versions of a file (Sb): their order, lists of them, merged lists. No program in sight.
-/
import Derived.Test.YtldnpfkgehgfpaaDoorPlain
namespace Go.Proofs.YtldnpfkgehgfpaaDoor

/-- A comparison that answers -1, 0 or 1, as a linear order does. -/
structure GoodCmp {α : Type} (c : α → α → Int) : Prop where
  anti : ∀ a b, c b a = - c a b
  eq : ∀ a b, c a b = 0 → a = b
  one : ∀ a b, c a b = -1 ∨ c a b = 0 ∨ c a b = 1
  trans : ∀ a b d, c a b = -1 → c b d = -1 → c a d = -1

section
variable {α β γ : Type}
theorem GoodCmp.same {c : α → α → Int} (h : GoodCmp c) (a : α) : c a a = 0 := by have := h.anti a a; omega

def cmpI (a b : Int) : Int := if a < b then -1 else if b < a then 1 else 0
theorem cmpI_good : GoodCmp cmpI where
  anti a b := by unfold cmpI; split <;> split <;> (try split) <;> omega
  eq a b := by unfold cmpI; split <;> (try split) <;> omega
  one a b := by unfold cmpI; split <;> (try split) <;> omega
  trans a b d := by unfold cmpI; repeat' split
                    all_goals omega

def cmpV : List Int → List Int → Int
  | [], [] => 0
  | [], _ :: _ => -1
  | _ :: _, [] => 1
  | a :: x, b :: y => if a < b then -1 else if b < a then 1 else cmpV x y
theorem cmpV_anti : ∀ a b : List Int, cmpV b a = - cmpV a b
  | [], [] => rfl
  | [], _ :: _ => rfl
  | _ :: _, [] => rfl
  | a :: x, b :: y => by
    have ih := cmpV_anti x y
    simp only [cmpV]
    split <;> split <;> (try split) <;> omega
theorem cmpV_eq : ∀ a b : List Int, cmpV a b = 0 → a = b
  | [], [] => fun _ => rfl
  | [], _ :: _ => fun h => by simp [cmpV] at h
  | _ :: _, [] => fun h => by simp [cmpV] at h
  | a :: x, b :: y => fun h => by
    have ih := cmpV_eq x y
    simp only [cmpV] at h
    split at h
    · omega
    · split at h
      · omega
      · rw [ih h, show a = b by omega]
theorem cmpV_one : ∀ a b : List Int, cmpV a b = -1 ∨ cmpV a b = 0 ∨ cmpV a b = 1
  | [], [] => by simp [cmpV]
  | [], _ :: _ => by simp [cmpV]
  | _ :: _, [] => by simp [cmpV]
  | a :: x, b :: y => by
    have ih := cmpV_one x y
    simp only [cmpV]
    split
    · omega
    · split
      · omega
      · exact ih
theorem cmpV_trans : ∀ a b d : List Int, cmpV a b = -1 → cmpV b d = -1 → cmpV a d = -1
  | [], [], _ => fun h => by simp [cmpV] at h
  | [], _ :: _, [] => fun _ h => by simp [cmpV] at h
  | [], _ :: _, _ :: _ => fun _ _ => by simp [cmpV]
  | _ :: _, [], _ => fun h => by simp [cmpV] at h
  | _ :: _, _ :: _, [] => fun _ h => by simp [cmpV] at h
  | a :: x, b :: y, d :: z => fun h1 h2 => by
    have ih := cmpV_trans x y z
    simp only [cmpV] at h1 h2 ⊢
    split at h1
    · split at h2
      · rw [if_pos (by omega)]
      · split at h2
        · omega
        · rw [if_pos (by omega)]
    · split at h1
      · omega
      · split at h2
        · rw [if_pos (by omega)]
        · split at h2
          · omega
          · rw [if_neg (by omega), if_neg (by omega)]
            exact ih h1 h2
theorem cmpV_good : GoodCmp cmpV := ⟨cmpV_anti, cmpV_eq, cmpV_one, cmpV_trans⟩

theorem GoodCmp.lex {c1 : α → α → Int} {c2 : β → β → Int} (h1 : GoodCmp c1) (h2 : GoodCmp c2) : GoodCmp (fun p q : α × β => if c1 p.1 q.1 ≠ 0 then c1 p.1 q.1 else c2 p.2 q.2) where
  anti p q := by
    have e1 := h1.anti p.1 q.1
    have e2 := h2.anti p.2 q.2
    try dsimp only
    split <;> split <;> omega
  eq p q := by
    intro h
    try dsimp only at h
    split at h
    · omega
    · have e1 := h1.eq p.1 q.1 (by omega)
      have e2 := h2.eq p.2 q.2 h
      exact Prod.ext e1 e2
  one p q := by
    try dsimp only
    split
    · exact h1.one _ _
    · exact h2.one _ _
  trans p q r := by
    intro a b
    try dsimp only at a b ⊢
    have o1 := h1.one p.1 q.1
    have o2 := h1.one q.1 r.1
    split at a
    · split at b
      · rw [if_pos (by rw [h1.trans _ _ _ a b]; omega)]; exact h1.trans _ _ _ a b
      · have e := h1.eq q.1 r.1 (by omega)
        rw [← e, if_pos (by omega)]; exact a
    · have e := h1.eq p.1 q.1 (by omega)
      rw [e]
      split at b
      · rw [if_pos (by omega)]; exact b
      · rw [if_neg (by omega)]; exact h2.trans _ _ _ a b
theorem GoodCmp.pull {c : α → α → Int} (h : GoodCmp c) (f : γ → α) (inj : ∀ x y, f x = f y → x = y) : GoodCmp (fun x y => c (f x) (f y)) :=
  ⟨fun _ _ => h.anti _ _, fun _ _ e => inj _ _ (h.eq _ _ e), fun _ _ => h.one _ _, fun _ _ _ => h.trans _ _ _⟩
end

/-- What a file is, by some writes. -/
structure Sb where
  vv : List Int
  gone : Bool
  text : ByteArray

theorem Sb.ext_ {a b : Sb} (h1 : a.vv = b.vv) (h2 : a.gone = b.gone) (h3 : a.text = b.text) : a = b := by
  cases a; cases b; simp_all

def cmpG (a b : Bool) : Int := cmpI (if a then 0 else 1) (if b then 0 else 1)
def nums (t : ByteArray) : List Int := t.data.toList.map fun x => (x.toNat : Int)
def cmpT (a b : ByteArray) : Int := cmpV (nums a) (nums b)
theorem nums_inj {a b : ByteArray} (h : nums a = nums b) : a = b := by
  have : a.data.toList = b.data.toList := by
    have hi : ∀ l m : List UInt8, (l.map fun x => (x.toNat : Int)) = (m.map fun x => (x.toNat : Int)) → l = m := by
      intro l
      induction l with
      | nil => intro m h; cases m <;> simp_all
      | cons x l ih =>
        intro m h
        cases m with
        | nil => simp at h
        | cons y m =>
          simp only [List.map_cons, List.cons.injEq] at h
          have he : x = y := UInt8.toNat_inj.1 (by omega)
          rw [ih m h.2, he]
    exact hi _ _ h
  cases a; cases b
  simp at this
  simp [this]
theorem cmpG_good : GoodCmp cmpG where
  anti a b := by cases a <;> cases b <;> decide
  eq a b := by cases a <;> cases b <;> decide
  one a b := by cases a <;> cases b <;> decide
  trans a b d := by cases a <;> cases b <;> cases d <;> decide
theorem cmpT_good : GoodCmp cmpT := cmpV_good.pull nums fun _ _ h => nums_inj h

def cmpS (a b : Sb) : Int := if cmpV a.vv b.vv ≠ 0 then cmpV a.vv b.vv else if cmpG a.gone b.gone ≠ 0 then cmpG a.gone b.gone else cmpT a.text b.text
theorem cmpS_good : GoodCmp cmpS := by
  have h := (cmpV_good.lex (cmpG_good.lex cmpT_good)).pull (fun s : Sb => (s.vv, s.gone, s.text)) (by
    intro x y h
    simp only [Prod.mk.injEq] at h
    exact Sb.ext_ h.1 h.2.1 h.2.2)
  exact h

def known (x y : Sb) : Bool := vvIn x.vv y.vv && !vvIn y.vv x.vv
def isKnown (x : Sb) (l : List Sb) : Bool := l.any (known x)
def textOk (t : ByteArray) : Bool := decide (t.size ≤ 4) && t.data.toList.all fun b => decide (97 ≤ b.toNat) && decide (b.toNat ≤ 100)
def sibOk (s : Sb) : Bool := vvOk s.vv && textOk s.text && (!s.gone || s.text.size == 0)
def ascB : List Sb → Bool
  | x :: y :: r => cmpS x y == -1 && ascB (y :: r)
  | _ => true
def sibsOk (l : List Sb) : Bool := l.all sibOk && ascB l && (l.all fun x => !isKnown x l) && decide (1 ≤ l.length) && decide (l.length ≤ 12)
def putL (s : Sb) : List Sb → List Sb
  | [] => [s]
  | x :: r => if cmpS s x < 0 then s :: x :: r else if cmpS s x = 0 then x :: r else x :: putL s r
def allL (a b : List Sb) : List Sb := b.foldl (fun acc s => putL s acc) a
def mergeL (a b : List Sb) : List Sb := (allL a b).filter fun x => !isKnown x (allL a b)
def Asc (l : List Sb) : Prop := l.Pairwise fun a b => cmpS a b = -1

theorem asc_of_B {l : List Sb} (h : ascB l = true) : Asc l := by
  induction l with
  | nil => exact List.Pairwise.nil
  | cons x l ih =>
    cases l with
    | nil => exact List.pairwise_singleton _ _
    | cons y r =>
      simp only [ascB, Bool.and_eq_true, beq_iff_eq] at h
      have hr := ih h.2
      refine List.pairwise_cons.2 ⟨fun z hz => ?_, hr⟩
      rcases List.mem_cons.1 hz with rfl | hz
      · exact h.1
      · exact cmpS_good.trans _ _ _ h.1 ((List.pairwise_cons.1 hr).1 z hz)
theorem ascB_of {l : List Sb} (h : Asc l) : ascB l = true := by
  induction l with
  | nil => rfl
  | cons x l ih =>
    cases l with
    | nil => rfl
    | cons y r =>
      have h2 := List.pairwise_cons.1 h
      simp only [ascB, Bool.and_eq_true, beq_iff_eq]
      exact ⟨h2.1 y (by simp), ih h2.2⟩

/-- A list in order is known by what is in it. -/
theorem asc_ext : ∀ {l m : List Sb}, Asc l → Asc m → (∀ x, x ∈ l ↔ x ∈ m) → l = m
  | [], [], _, _, _ => rfl
  | [], y :: m, _, _, h => by have := (h y).2 (by simp); simp at this
  | x :: l, [], _, _, h => by have := (h x).1 (by simp); simp at this
  | x :: l, y :: m, hl, hm, h => by
    have pl := List.pairwise_cons.1 hl
    have pm := List.pairwise_cons.1 hm
    have hxy : x = y := by
      rcases List.mem_cons.1 ((h x).1 (by simp)) with e | hx
      · exact e
      · rcases List.mem_cons.1 ((h y).2 (by simp)) with e | hy
        · exact e.symm
        · have a := pl.1 y hy
          have b := pm.1 x hx
          have := cmpS_good.anti x y
          omega
    subst hxy
    have hne : ∀ z, cmpS x z = -1 → z ≠ x := by
      rintro z hz rfl
      have := cmpS_good.same z
      omega
    have : l = m := asc_ext pl.2 pm.2 fun z => by
      constructor
      · intro hz
        rcases List.mem_cons.1 ((h z).1 (by simp [hz])) with e | h'
        · exact absurd e (hne z (pl.1 z hz))
        · exact h'
      · intro hz
        rcases List.mem_cons.1 ((h z).2 (by simp [hz])) with e | h'
        · exact absurd e (hne z (pm.1 z hz))
        · exact h'
    rw [this]

theorem mem_putL {s : Sb} : ∀ {l : List Sb} {x : Sb}, x ∈ putL s l ↔ x = s ∨ x ∈ l
  | [], x => by simp [putL]
  | y :: r, x => by
    simp only [putL]
    split
    · simp
    · split
      · rename_i h
        have e := cmpS_good.eq _ _ h
        subst e
        simp
      · simp only [List.mem_cons, mem_putL (l := r)]
        constructor
        · rintro (h | h | h) <;> simp [h]
        · rintro (h | h | h) <;> simp [h]
theorem asc_putL {s : Sb} : ∀ {l : List Sb}, Asc l → Asc (putL s l)
  | [], _ => List.pairwise_singleton _ _
  | y :: r, h => by
    have p := List.pairwise_cons.1 h
    simp only [putL]
    have one := cmpS_good.one s y
    split
    · rename_i hlt
      refine List.pairwise_cons.2 ⟨fun z hz => ?_, h⟩
      have hs : cmpS s y = -1 := by omega
      rcases List.mem_cons.1 hz with rfl | hz
      · exact hs
      · exact cmpS_good.trans _ _ _ hs (p.1 z hz)
    · split
      · exact h
      · refine List.pairwise_cons.2 ⟨fun z hz => ?_, asc_putL p.2⟩
        rcases mem_putL.1 hz with rfl | hz
        · have := cmpS_good.anti z y
          omega
        · exact p.1 z hz
theorem mem_allL {b : List Sb} : ∀ {a : List Sb} {x : Sb}, x ∈ allL a b ↔ x ∈ a ∨ x ∈ b := by
  induction b with
  | nil => intro a x; simp [allL]
  | cons s b ih =>
    intro a x
    show x ∈ allL (putL s a) b ↔ _
    rw [ih, mem_putL]
    simp only [List.mem_cons]
    constructor
    · rintro ((h | h) | h) <;> simp [h]
    · rintro (h | h | h) <;> simp [h]
theorem asc_allL {b : List Sb} : ∀ {a : List Sb}, Asc a → Asc (allL a b) := by
  induction b with
  | nil => intro a h; exact h
  | cons s b ih => intro a h; exact ih (asc_putL h)
theorem mem_mergeL {a b : List Sb} {x : Sb} : x ∈ mergeL a b ↔ (x ∈ a ∨ x ∈ b) ∧ ∀ y, y ∈ a ∨ y ∈ b → known x y = false := by
  unfold mergeL
  rw [List.mem_filter, mem_allL]
  refine and_congr_right fun _ => ?_
  simp only [isKnown, Bool.not_eq_true', List.any_eq_false, Bool.not_eq_true]
  exact ⟨fun h y hy => h y (mem_allL.2 hy), fun h y hy => h y (mem_allL.1 hy)⟩
theorem asc_mergeL {a b : List Sb} (h : Asc a) : Asc (mergeL a b) := (asc_allL h).filter _

/-! ## known is an order -/
def sumV (v : List Int) : Int := v.foldr (· + ·) 0
theorem vvIn3 {a b c x y z : Int} : vvIn [a, b, c] [x, y, z] = true ↔ a ≤ x ∧ b ≤ y ∧ c ≤ z := by simp [vvIn]
theorem vvIn_same {v : List Int} (h : vvOk v = true) : vvIn v v = true := by
  obtain ⟨a, b, c, rfl, _⟩ := vvOk_form h
  rw [vvIn3]; omega
theorem vvIn_trans {u v w : List Int} (hu : vvOk u = true) (hv : vvOk v = true) (hw : vvOk w = true) (h1 : vvIn u v = true) (h2 : vvIn v w = true) : vvIn u w = true := by
  obtain ⟨a, b, c, rfl, _⟩ := vvOk_form hu
  obtain ⟨a', b', c', rfl, _⟩ := vvOk_form hv
  obtain ⟨a'', b'', c'', rfl, _⟩ := vvOk_form hw
  rw [vvIn3] at *; omega
theorem vvIn_anti {u v : List Int} (hu : vvOk u = true) (hv : vvOk v = true) (h1 : vvIn u v = true) (h2 : vvIn v u = true) : u = v := by
  obtain ⟨a, b, c, rfl, _⟩ := vvOk_form hu
  obtain ⟨a', b', c', rfl, _⟩ := vvOk_form hv
  rw [vvIn3] at *
  rw [show a = a' by omega, show b = b' by omega, show c = c' by omega]
theorem known_iff {x y : Sb} : known x y = true ↔ vvIn x.vv y.vv = true ∧ vvIn y.vv x.vv = false := by simp [known]
theorem known_sum {x y : Sb} (hx : vvOk x.vv = true) (hy : vvOk y.vv = true) (h : known x y = true) : sumV x.vv < sumV y.vv := by
  obtain ⟨h1, h2⟩ := known_iff.1 h
  obtain ⟨a, b, c, e, _⟩ := vvOk_form hx
  obtain ⟨a', b', c', e', _⟩ := vvOk_form hy
  rw [e, e'] at h1 h2 ⊢
  rw [vvIn3] at h1
  have h3 : ¬ (a' ≤ a ∧ b' ≤ b ∧ c' ≤ c) := fun hh => by rw [vvIn3.2 hh] at h2; cases h2
  simp [sumV]; omega
theorem sumV_le {v : List Int} (h : vvOk v = true) : sumV v ≤ 90 := by
  obtain ⟨a, b, c, rfl, _⟩ := vvOk_form h
  simp [sumV]; omega
theorem known_trans {x y z : Sb} (hx : vvOk x.vv = true) (hy : vvOk y.vv = true) (hz : vvOk z.vv = true) (h1 : known x y = true) (h2 : known y z = true) : known x z = true := by
  obtain ⟨a1, a2⟩ := known_iff.1 h1
  obtain ⟨b1, b2⟩ := known_iff.1 h2
  refine known_iff.2 ⟨vvIn_trans hx hy hz a1 b1, ?_⟩
  rw [Bool.eq_false_iff]
  intro hh
  have := vvIn_trans hz hx hy hh a1
  rw [this] at b2; cases b2
theorem known_self {x : Sb} : known x x = false := by simp [known]

/-- Each one of a list is not known by any, or known by one that is not known by any. -/
theorem above {l : List Sb} (hl : ∀ x ∈ l, vvOk x.vv = true) : ∀ (n : Nat) (x : Sb), x ∈ l → (90 - sumV x.vv).toNat ≤ n →
    ∃ y, y ∈ l ∧ isKnown y l = false ∧ (y = x ∨ known x y = true) := by
  intro n
  induction n with
  | zero =>
    intro x hx hn
    refine ⟨x, hx, ?_, .inl rfl⟩
    rw [Bool.eq_false_iff]
    intro hk
    obtain ⟨y, hy, hxy⟩ := List.any_eq_true.1 hk
    have := known_sum (hl x hx) (hl y hy) hxy
    have := sumV_le (hl y hy)
    omega
  | succ n ih =>
    intro x hx hn
    by_cases hk : isKnown x l = true
    · obtain ⟨y, hy, hxy⟩ := List.any_eq_true.1 hk
      have hs := known_sum (hl x hx) (hl y hy) hxy
      have hs2 := sumV_le (hl y hy)
      obtain ⟨z, hz, hzk, hzy⟩ := ih y hy (by omega)
      refine ⟨z, hz, hzk, .inr ?_⟩
      rcases hzy with rfl | hzy
      · exact hxy
      · exact known_trans (hl x hx) (hl y hy) (hl z hz) hxy hzy
    · exact ⟨x, hx, by simpa using hk, .inl rfl⟩

/-! ## Lists that are ok -/
theorem sibOk_vv {s : Sb} (h : sibOk s = true) : vvOk s.vv = true := by simp [sibOk] at h; exact h.1.1
theorem isKnown_false {x : Sb} {l : List Sb} : isKnown x l = false ↔ ∀ y ∈ l, known x y = false := by
  simp [isKnown]
theorem sibsOk_iff {l : List Sb} : sibsOk l = true ↔ (∀ x ∈ l, sibOk x = true) ∧ Asc l ∧ (∀ x ∈ l, ∀ y ∈ l, known x y = false) ∧ 1 ≤ l.length ∧ l.length ≤ 12 := by
  simp only [sibsOk, Bool.and_eq_true, decide_eq_true_eq, List.all_eq_true, Bool.not_eq_true', isKnown_false]
  constructor
  · rintro ⟨⟨⟨⟨h1, h2⟩, h3⟩, h4⟩, h5⟩
    exact ⟨h1, asc_of_B h2, h3, h4, h5⟩
  · rintro ⟨h1, h2, h3, h4, h5⟩
    exact ⟨⟨⟨⟨h1, ascB_of h2⟩, h3⟩, h4⟩, h5⟩

theorem mergeL_ok {a b : List Sb} (ha : sibsOk a = true) (hb : sibsOk b = true) : sibsOk (mergeL a b) = decide ((mergeL a b).length ≤ 12) := by
  obtain ⟨a1, a2, a3, a4, a5⟩ := sibsOk_iff.1 ha
  obtain ⟨b1, b2, b3, b4, b5⟩ := sibsOk_iff.1 hb
  have hall : ∀ x, x ∈ a ∨ x ∈ b → sibOk x = true := fun x h => h.elim (a1 x) (b1 x)
  rw [Bool.eq_iff_iff, decide_eq_true_eq, sibsOk_iff]
  constructor
  · exact fun h => h.2.2.2.2
  · intro hlen
    refine ⟨fun x hx => hall x (mem_mergeL.1 hx).1, asc_mergeL a2, fun x hx y hy => (mem_mergeL.1 hx).2 y (mem_mergeL.1 hy).1, ?_, hlen⟩
    have hne : a ≠ [] := by rintro rfl; simp at a4
    obtain ⟨x, hx⟩ := List.exists_mem_of_ne_nil a hne
    obtain ⟨y, hy, hyk, _⟩ := above (l := allL a b) (fun x hx => sibOk_vv (hall x (mem_allL.1 hx))) _ x (mem_allL.2 (.inl hx)) (Nat.le_refl _)
    have hm : y ∈ mergeL a b := mem_mergeL.2 ⟨mem_allL.1 hy, fun z hz => isKnown_false.1 hyk z (mem_allL.2 hz)⟩
    exact List.length_pos_of_mem hm

end Go.Proofs.YtldnpfkgehgfpaaDoor
