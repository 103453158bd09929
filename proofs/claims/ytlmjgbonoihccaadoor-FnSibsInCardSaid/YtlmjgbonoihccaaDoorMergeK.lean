
/-
  Contracts of lvSibs and lvHas: are two lists the same, is one in a list? Plain facts that the laws on counts want. More plain facts that the laws on counts want: what is in what, the next counts. For the laws on merging: what SibsMerge answers, in a form that takes the answer from elsewhere; plain facts on it; appending a list to a list. For the laws on merging: joined counts of a merged list, one that knows all; a drawn list's capacity. Who stays of two lists that are merged. (Plain.)
-/
import Derived.Test.YtlmjgbonoihccaaDoorSibsE
import Derived.Test.YtlmjgbonoihccaaDoorSibL
import Derived.Test.YtlmjgbonoihccaaDoorSibsP
import Derived.Test.YtlmjgbonoihccaaDoorHas
import Derived.Test.YtlmjgbonoihccaaDoorSibsMg
import Derived.Test.YtlmjgbonoihccaaDoorDrawL
import Derived.Test.YtlmjgbonoihccaaDoorSibsF
namespace Go.Proofs.YtlmjgbonoihccaaDoor
open Go.RowKit Go.PlainAid

set_option maxRecDepth 100000 in
set_option maxHeartbeats 1600000 in
theorem lvSibs_any (A B : Option Addr) (n m c d : Nat) (ks ls : List Kv) (w : World) (h1 : HasS w A n ks) (h2 : HasS w B m ls) (hn : n ≤ maxLen) :
    Calls Tryd.prog 24 #[.slice A n c, .slice B m d] w fun e w' => e = .returned (.bool (decide (sbs ks = sbs ls))) ∧ Below w.heap.size w w' := by
  unfold maxLen at hn
  have L1 := Lib.hid h1.len
  have L2 := Lib.hid h2.len
  have H1 := Lib.hid h1
  have H2 := Lib.hid h2
  clear h1 h2
  by_cases hl : n = m
  · subst hl
    go_enter Tryd.func24, Tryd.ntmps24
    go_wp2
    go_loopw [5] (fun i wr => ∃ k : Nat, k ≤ n ∧ i = .int .i64 k ∧ Hid (Below w.heap.size w wr) ∧ Hid (∀ j x y, j < k → (sbs ks)[j]? = some x → (sbs ls)[j]? = some y → x = y)) (fun i _ => n - (intOf i).toNat)
    case atStart => exact ⟨0, Nat.zero_le _, rfl, Below.refl _ _, fun j x y hj => absurd hj (by omega)⟩
    case round =>
      obtain ⟨k, hk, rfl, HB, hall⟩ := hrel
      by_cases hlt : k < n
      · obtain ⟨b, off, A', n', c', vv, g, t, rfl, hbl, c0, c1, c2, I, hn', ht', hx⟩ := H1.out.at_ hlt
        obtain ⟨b', off', A2, n2, c2', vv2, g2, t2, rfl, hbl', d0, d1, d2, J, hn2, ht2, hy⟩ := H2.out.at_ hlt
        have Q0 := Lib.hid (cell_upE HB.out c0)
        have Q1 := Lib.hid (cell_upE HB.out c1)
        have Q2 := Lib.hid (cell_upE HB.out c2)
        have P0 := Lib.hid (cell_upE HB.out d0)
        have P1 := Lib.hid (cell_upE HB.out d1)
        have P2 := Lib.hid (cell_upE HB.out d2)
        have IR := Lib.hid (I.step HB.out)
        have JR := Lib.hid (J.step HB.out)
        have i1 : (k : Int) < (n : Int) := by omega
        have i2 : (0 : Int) ≤ (k : Int) := by omega
        obtain ⟨z, hz⟩ : ∃ z, decide ((⟨vv, g, t⟩ : Sb) = ⟨vv2, g2, t2⟩) = z := ⟨_, rfl⟩
        clear c0 c1 c2 d0 d1 d2 I J
        go_wp2
        go_region_held3 (fun w' => w'.cell? ⟨b, off + k * 3, none⟩ = some (.slice A' n' c') ∧ w'.cell? ⟨b, off + k * 3 + 1, none⟩ = some (.bool g) ∧ w'.cell? ⟨b, off + k * 3 + 2, none⟩ = some (.string t) ∧ w'.cell? ⟨b', off' + k * 3, none⟩ = some (.slice A2 n2 c2') ∧ w'.cell? ⟨b', off' + k * 3 + 1, none⟩ = some (.bool g2) ∧ w'.cell? ⟨b', off' + k * 3 + 2, none⟩ = some (.string t2) ∧ Has w' A' n' vv ∧ Has w' A2 n2 vv2 ∧ Below w.heap.size w w')
          (first
            | exact ⟨by exact Q0.out, by exact Q1.out, by exact Q2.out, by exact P0.out, by exact P1.out, by exact P2.out, by exact IR.out, by exact JR.out, HB.out.drew⟩
            | (go_split_ands
               exact ⟨cell_upE hb (by assumption), cell_upE hb (by assumption), cell_upE hb (by assumption), cell_upE hb (by assumption), cell_upE hb (by assumption), cell_upE hb (by assumption), Has.step (by assumption) hb, Has.step (by assumption) hb, Below.trans (by assumption) (hb.mono (Below.size (by assumption)))⟩))
          (first
            | (go_at_call 59; go_split_ands; refine (lvSib_any _ _ _ _ _ _ vv vv2 _ _ _ _ _ (by assumption) (by assumption) hn').mono ?_; rintro e w6 ⟨rfl, hb⟩; rw [eq_sb, hz]))
        go_split_ands
        cases z
        · go_wp2
          go_ret
          exact ⟨ret_bool (by rw [eq_comm, decide_eq_false_iff_not]; exact sbs_ne (sbs_at hx.out) (sbs_at hy.out) (of_decide_eq_false hz)), by assumption⟩
        · go_wp2
          go_roundw
          case rel =>
            refine ⟨k + 1, by omega, by go_num, by assumption, fun j x y hj hjx hjy => ?_⟩
            by_cases e : j = k
            · subst e
              rw [sbs_at hx.out] at hjx
              rw [sbs_at hy.out] at hjy
              injection hjx with hjx
              injection hjy with hjy
              rw [← hjx, ← hjy]
              exact of_decide_eq_true hz
            · exact hall.out j x y (by omega) hjx hjy
          case measure => simp [intOf]; omega
      · go_wp2
        go_ret
        exact ⟨ret_bool (by rw [eq_comm, decide_eq_true_eq]; exact sbs_eq (n := n) (by rw [sbs_len, L1.out]) (by rw [sbs_len, L2.out]) (fun j x y hj => hall.out j x y (by omega))), HB.out⟩
  · have hne : ((n : Int) != (m : Int)) = true := by simp; omega
    have HN := Lib.hid hl
    clear hl
    go_enter Tryd.func24, Tryd.ntmps24
    go_wp2
    go_ret
    exact ⟨ret_bool (by rw [eq_comm, decide_eq_false_iff_not]; intro e; have := congrArg List.length e; rw [sbs_len, sbs_len, L1.out, L2.out] at this; exact HN.out this), Below.refl _ _⟩

/-- One is in a list. -/
def hasB (ss : List Sb) (s : Sb) : Bool := ss.any fun x => decide (x = s)
theorem hasB_iff {ss : List Sb} {s : Sb} : hasB ss s = true ↔ s ∈ ss := by
  unfold hasB
  rw [List.any_eq_true]
  constructor
  · rintro ⟨x, hx, h⟩; rw [← of_decide_eq_true h]; exact hx
  · intro h; exact ⟨s, h, decide_eq_true rfl⟩

set_option maxRecDepth 100000 in
set_option maxHeartbeats 1600000 in
theorem lvHas_any (A B : Option Addr) (n m c d : Nat) (ks : List Kv) (xs : List Int) (g : Bool) (t : ByteArray) (w : World) (h1 : HasS w A n ks) (h2 : Has w B m xs) (hn : n ≤ maxLen) :
    Calls Tryd.prog 45 #[.slice A n c, .agg #[.slice B m d, .bool g, .string t]] w fun e w' => e = .returned (.bool (hasB (sbs ks) ⟨xs, g, t⟩)) ∧ Below w.heap.size w w' := by
  unfold maxLen at hn
  have b1 := bel_alloc w (.cells #[.slice B m d, .bool g, .string t] 31)
  have BW := Lib.hid b1
  have J := Lib.hid (h1.step b1)
  have I := Lib.hid (h2.step b1)
  have V := Lib.hid (Var3.new 31 w (.slice B m d) (.bool g) (.string t))
  have HL := Lib.hid h1.len
  obtain ⟨u, hu⟩ : ∃ u, w.alloc (.cells #[.slice B m d, .bool g, .string t] 31) = u := ⟨_, rfl⟩
  clear b1 h1 h2
  go_enter Tryd.func45, Tryd.ntmps45
  go_wp2
  rw [hu] at BW I J V
  clear hu
  go_loopw [5] (fun i wr => ∃ k : Nat, k ≤ n ∧ i = .int .i64 k ∧ Hid (Below u.heap.size u wr) ∧ Hid (∀ j x, j < k → (sbs ks)[j]? = some x → decide (x = (⟨xs, g, t⟩ : Sb)) = false)) (fun i _ => n - (intOf i).toNat)
  case atStart => exact ⟨0, Nat.zero_le _, rfl, Below.refl _ _, fun j x hj => absurd hj (by omega)⟩
  case round =>
    obtain ⟨k, hk, rfl, HB, hall⟩ := hrel
    by_cases hlt : k < n
    · obtain ⟨b, off, A', n', c', vv, g', t', rfl, hbl, c0, c1, c2, J', hn', _, hx⟩ := J.out.at_ hlt
      have V0 := Lib.hid (cell_upC HB.out V.out.c0)
      have V1 := Lib.hid (cell_upC HB.out V.out.c1)
      have V2 := Lib.hid (cell_upC HB.out V.out.c2)
      have Q0 := Lib.hid (cell_upC HB.out c0)
      have Q1 := Lib.hid (cell_upC HB.out c1)
      have Q2 := Lib.hid (cell_upC HB.out c2)
      have IR := Lib.hid (I.out.step HB.out)
      have JR := Lib.hid (J'.step HB.out)
      obtain ⟨z, hz⟩ : ∃ z, decide ((⟨vv, g', t'⟩ : Sb) = ⟨xs, g, t⟩) = z := ⟨_, rfl⟩
      have HZ := Lib.hid hz
      clear c0 c1 c2 J' hz
      go_wp2
      go_region_held3 (fun w' => w'.cell? ⟨w.heap.size, 0, none⟩ = some (.slice B m d) ∧ w'.cell? ⟨w.heap.size, 1, none⟩ = some (.bool g) ∧ w'.cell? ⟨w.heap.size, 2, none⟩ = some (.string t) ∧ w'.cell? ⟨b, off + k * 3, none⟩ = some (.slice A' n' c') ∧ w'.cell? ⟨b, off + k * 3 + 1, none⟩ = some (.bool g') ∧ w'.cell? ⟨b, off + k * 3 + 2, none⟩ = some (.string t') ∧ Has w' B m xs ∧ Has w' A' n' vv ∧ Below u.heap.size u w')
        (first
          | exact ⟨by exact V0.out, by exact V1.out, by exact V2.out, by exact Q0.out, by exact Q1.out, by exact Q2.out, by exact IR.out, by exact JR.out, HB.out.drew⟩
          | (go_split_ands
             exact ⟨cell_upC hb (by assumption), cell_upC hb (by assumption), cell_upC hb (by assumption), cell_upC hb (by assumption), cell_upC hb (by assumption), cell_upC hb (by assumption), Has.step (by assumption) hb, Has.step (by assumption) hb, Below.trans (by assumption) (hb.mono (Below.size (by assumption)))⟩))
        (first
          | (go_at_call 59; go_split_ands; refine (lvSib_any _ _ _ _ _ _ vv xs _ _ _ _ _ (by assumption) (by assumption) hn').mono ?_; rintro e w6 ⟨rfl, hb⟩; rw [eq_sb, HZ.out]))
      all_goals go_split_ands
      all_goals have HBn := Lib.hid (show Below u.heap.size u _ by assumption)
      all_goals cases z
      all_goals go_wp2
      all_goals first
        | (go_roundw
           case rel =>
             refine ⟨k + 1, by omega, by go_num, HBn, fun j x hj hjx => ?_⟩
             by_cases e : j = k
             · subst e
               rw [sbs_at hx.out] at hjx
               injection hjx with hjx
               subst hjx
               exact HZ.out
             · exact hall.out j x (by omega) hjx
           case measure => simp [intOf]; omega)
        | (go_ret
           exact ⟨ret_bool (hasB_iff.2 (by rw [← of_decide_eq_true HZ.out]; exact List.mem_of_getElem? (sbs_at hx.out))).symm, BW.out.trans (HBn.out.mono BW.out.size)⟩)
    · go_wp2
      go_ret
      obtain rfl : k = n := by omega
      exact ⟨ret_bool (any_from (by rw [sbs_len, HL.out]) hall.out).symm, BW.out.trans (HB.out.mono BW.out.size)⟩

end Go.Proofs.YtlmjgbonoihccaaDoor

namespace Go.Proofs.YtlmjgbonoihccaaDoor
open Go.RowKit

theorem Came.step {w w' : World} {A : Option Addr} {n c : Nat} {zs : List Int} (h : Came w A n c zs) (hb : Below w.heap.size w w') : Came w' A n c zs := h.below hb
theorem vvJoinOk_le (xs ys : List Int) : (vvJoinOk xs ys).length ≤ 3 := by
  unfold vvJoinOk
  split
  · rename_i h
    simp only [Bool.and_eq_true] at h
    rw [vvJoin_len (by rw [vvOk_len h.1, vvOk_len h.2]), vvOk_len h.1]
    exact Nat.le_refl _
  · simp
theorem vvJoin3 (a b c x y z : Int) : vvJoin [a, b, c] [x, y, z] = [max a x, max b y, max c z] := rfl
theorem joinOk_yes {x y : List Int} (hx : vvOk x = true) (hy : vvOk y = true) : vvJoinOk x y = vvJoin x y := by simp [vvJoinOk, hx, hy]
theorem vvOk_join {x y : List Int} (hx : vvOk x = true) (hy : vvOk y = true) : vvOk (vvJoin x y) = true := by
  obtain ⟨a, b, c, rfl, _⟩ := vvOk_form hx
  obtain ⟨a', b', c', rfl, _⟩ := vvOk_form hy
  rw [vvJoin3]
  exact vvOk_mk (by omega)
theorem joinOk_three {x y z : List Int} (hx : vvOk x = true) (hy : vvOk y = true) (hz : vvOk z = true) : vvJoinOk (vvJoinOk x y) z = vvJoinOk x (vvJoinOk y z) := by
  rw [joinOk_yes hx hy, joinOk_yes hy hz, joinOk_yes (vvOk_join hx hy) hz, joinOk_yes hx (vvOk_join hy hz)]
  obtain ⟨a, b, c, rfl, _⟩ := vvOk_form hx
  obtain ⟨a', b', c', rfl, _⟩ := vvOk_form hy
  obtain ⟨a'', b'', c'', rfl, _⟩ := vvOk_form hz
  simp only [vvJoin3]
  congr 1
  · omega
  · congr 1
    · omega
    · congr 1
      omega
theorem vvJoin_comm {x y : List Int} (hx : vvOk x = true) (hy : vvOk y = true) : vvJoin x y = vvJoin y x := by
  obtain ⟨a, b, c, rfl, _⟩ := vvOk_form hx
  obtain ⟨a', b', c', rfl, _⟩ := vvOk_form hy
  simp only [vvJoin3]
  congr 1
  · omega
  · congr 1
    · omega
    · congr 1
      omega
theorem vvJoin_self {x : List Int} (hx : vvOk x = true) : vvJoin x x = x := by
  obtain ⟨a, b, c, rfl, _⟩ := vvOk_form hx
  simp only [vvJoin3]
  congr 1
  · omega
  · congr 1
    · omega
    · congr 1
      omega

end Go.Proofs.YtlmjgbonoihccaaDoor

namespace Go.Proofs.YtlmjgbonoihccaaDoor
open Go.RowKit

theorem in3 (a b c x y z : Int) : vvIn [a, b, c] [x, y, z] = (decide (a ≤ x) && (decide (b ≤ y) && decide (c ≤ z))) := by simp [vvIn]
theorem inOk_yes {x y : List Int} (hx : vvOk x = true) (hy : vvOk y = true) : vvInOk x y = vvIn x y := by simp [vvInOk, hx, hy]
theorem in_join_l {x y : List Int} (hx : vvOk x = true) (hy : vvOk y = true) : vvInOk x (vvJoinOk x y) = true := by
  rw [joinOk_yes hx hy, inOk_yes hx (vvOk_join hx hy)]
  obtain ⟨a, b, c, rfl, _⟩ := vvOk_form hx
  obtain ⟨a', b', c', rfl, _⟩ := vvOk_form hy
  rw [vvJoin3, in3]
  simp; omega
theorem in_join_r {x y : List Int} (hx : vvOk x = true) (hy : vvOk y = true) : vvInOk y (vvJoinOk x y) = true := by
  rw [joinOk_yes hx hy, inOk_yes hy (vvOk_join hx hy)]
  obtain ⟨a, b, c, rfl, _⟩ := vvOk_form hx
  obtain ⟨a', b', c', rfl, _⟩ := vvOk_form hy
  rw [vvJoin3, in3]
  simp; omega
theorem join_in {x y z : List Int} (hx : vvOk x = true) (hy : vvOk y = true) (hz : vvOk z = true) : vvInOk (vvJoinOk x y) z = (vvInOk x z && vvInOk y z) := by
  rw [joinOk_yes hx hy, inOk_yes (vvOk_join hx hy) hz, inOk_yes hx hz, inOk_yes hy hz]
  obtain ⟨a, b, c, rfl, _⟩ := vvOk_form hx
  obtain ⟨a', b', c', rfl, _⟩ := vvOk_form hy
  obtain ⟨a'', b'', c'', rfl, _⟩ := vvOk_form hz
  rw [vvJoin3, in3, in3, in3, Bool.eq_iff_iff]
  simp; omega
theorem joinOk_comm {x y : List Int} (hx : vvOk x = true) (hy : vvOk y = true) : vvJoinOk y x = vvJoinOk x y := by
  rw [joinOk_yes hx hy, joinOk_yes hy hx, vvJoin_comm hx hy]
theorem joinOk_self {x : List Int} (hx : vvOk x = true) : vvJoinOk x x = x := by rw [joinOk_yes hx hx, vvJoin_self hx]

theorem next_form {x : List Int} {s : Int} (h : nextOk x s = true) : ∃ (k : Nat), s = (k : Int) + 1 ∧ k < 3 ∧ vvOk x = true ∧ x.getD k 0 < 30 ∧ vvNext x s = x.set k (x.getD k 0 + 1) := by
  have h' := h
  simp only [nextOk, Bool.and_eq_true, decide_eq_true_eq] at h'
  obtain ⟨⟨h1, h2, h3⟩, h4⟩ := h'
  refine ⟨(s - 1).toNat, by omega, by omega, h1, h4, by simp [vvNext, h]⟩
theorem vvOk_next {x : List Int} {s : Int} (h : nextOk x s = true) : vvOk (vvNext x s) = true := by
  obtain ⟨k, rfl, hk, hx, hl, e⟩ := next_form h
  rw [e]
  obtain ⟨a, b, c, rfl, _⟩ := vvOk_form hx
  match k, hk with
  | 0, _ => simp at hl; simp; exact vvOk_mk (by omega)
  | 1, _ => simp at hl; simp; exact vvOk_mk (by omega)
  | 2, _ => simp at hl; simp; exact vvOk_mk (by omega)
theorem vvNext_len {x : List Int} {s : Int} : (vvNext x s).length ≤ 3 := by
  by_cases h : nextOk x s = true
  · rw [vvOk_len (vvOk_next h)]; exact Nat.le_refl _
  · simp [vvNext, h]
theorem next_in {x : List Int} {s : Int} (h : nextOk x s = true) : vvInOk x (vvNext x s) = true ∧ vvInOk (vvNext x s) x = false := by
  have hn := vvOk_next h
  obtain ⟨k, rfl, hk, hx, hl, e⟩ := next_form h
  rw [inOk_yes hx hn, inOk_yes hn hx, e]
  obtain ⟨a, b, c, rfl, _⟩ := vvOk_form hx
  match k, hk with
  | 0, _ => simp [in3]; omega
  | 1, _ => simp [in3]; omega
  | 2, _ => simp [in3]; omega
theorem next_at {x : List Int} {s : Int} (h : nextOk x s = true) (j : Nat) (hj : j < 3) : (vvNext x s).getD j 0 = if (j : Int) = s - 1 then x.getD j 0 + 1 else x.getD j 0 := by
  obtain ⟨k, rfl, hk, hx, hl, e⟩ := next_form h
  rw [e]
  obtain ⟨a, b, c, rfl, _⟩ := vvOk_form hx
  match k, hk, j, hj with
  | 0, _, 0, _ => simp
  | 0, _, 1, _ => simp
  | 0, _, 2, _ => simp
  | 1, _, 0, _ => simp
  | 1, _, 1, _ => simp
  | 1, _, 2, _ => simp
  | 2, _, 0, _ => simp
  | 2, _, 1, _ => simp
  | 2, _, 2, _ => simp

theorem apart {x : List Int} {s o : Int} (hs : nextOk x s = true) (ho : nextOk x o = true) (hne : o ≠ s) :
    nextOk (vvNext x s) o = true ∧ vvInOk (vvNext x s) (vvNext x o) = false ∧ vvInOk (vvNext x o) (vvNext x s) = false ∧ vvJoinOk (vvNext x s) (vvNext x o) = vvNext (vvNext x s) o := by
  have h1 := vvOk_next hs
  have h2 := vvOk_next ho
  obtain ⟨k, rfl, hk, hx, hl, e⟩ := next_form hs
  obtain ⟨m, rfl, hm, _, hl', e'⟩ := next_form ho
  have h3 : nextOk (vvNext x ((k : Int) + 1)) ((m : Int) + 1) = true := by
    rw [nextOk_iff _ m hm h1, e]
    have : (x.set k (x.getD k 0 + 1)).getD m 0 = x.getD m 0 := by
      rw [List.getD_eq_getElem?_getD, List.getElem?_set_ne (by omega), ← List.getD_eq_getElem?_getD]
    rw [this]; simpa using hl'
  refine ⟨h3, ?_⟩
  obtain ⟨m', hm', _, _, _, e''⟩ := next_form h3
  obtain rfl : m' = m := by omega
  rw [inOk_yes h1 h2, inOk_yes h2 h1, joinOk_yes h1 h2, e'', e, e']
  obtain ⟨a, b, c, rfl, _⟩ := vvOk_form hx
  match k, hk, m', hm with
  | 0, _, 0, _ => omega
  | 1, _, 1, _ => omega
  | 2, _, 2, _ => omega
  | 0, _, 1, _ => simp [in3, vvJoin3]; omega
  | 0, _, 2, _ => simp [in3, vvJoin3]; omega
  | 1, _, 0, _ => simp [in3, vvJoin3]; omega
  | 1, _, 2, _ => simp [in3, vvJoin3]; omega
  | 2, _, 0, _ => simp [in3, vvJoin3]; omega
  | 2, _, 1, _ => simp [in3, vvJoin3]; omega

theorem in_both {x y : List Int} (hx : vvOk x = true) (hy : vvOk y = true) (h : vvInOk x y = true) : vvInOk y x = decide (x = y) := by
  rw [inOk_yes hx hy] at h
  rw [inOk_yes hy hx]
  obtain ⟨a, b, c, rfl, _⟩ := vvOk_form hx
  obtain ⟨a', b', c', rfl, _⟩ := vvOk_form hy
  rw [in3] at h ⊢
  simp at h
  rw [Bool.eq_iff_iff]
  simp; omega
theorem in_self {x : List Int} (hx : vvOk x = true) : vvInOk x x = true := by
  rw [inOk_yes hx hx]
  obtain ⟨a, b, c, rfl, _⟩ := vvOk_form hx
  simp [in3]
theorem in_ne {x y : List Int} (hx : vvOk x = true) (h : vvInOk x y = false) : decide (x = y) = false := by
  rw [decide_eq_false_iff_not]
  rintro rfl
  rw [in_self hx] at h; cases h

/-- The law of append at an operation that is guarded, its guard saying yes. -/
theorem append_guarded {P : Program} {ops : Array Oper} {rest : List Oper} {o : Oper} {a : Act} {Q : Exit → Act → World → Prop} (w : World) (hw : Region.wanted o (yielded ops a.tmps) = true) (s x : Operand) (t : TypeId)
    (ho : o.op = .call { callee := .builtin .append, args := #[s, x], argTypes := #[t, t] })
    (base : Nat) (e : TypeId) (i : TypeInfo) (z : Value) (size bytes : Nat) (ht : P.underlying t = some (.slice e)) (hi : P.info? e = some i) (hz : i.zero = some z)
    (hsize : i.size = size) (hby : i.bytes = bytes) (hzs : z.cells.size = size) (hsz : 0 < size)
    (v : Value) (n : Nat) (xs : List Value) (hs : a.eval s = v) (hown : w.ownsRow base e size v n xs)
    (ad : Addr) (m c : Nat) (news : List Value) (hx : a.eval x = .slice (some ad) m c) (hl : news.length = m * size) (hnews : ∀ j u, news[j]? = some u → w.cell? (ad.add j) = some u) (h1 : ∀ u ∈ news, u.oneCell' = true)
    (hm : 0 < m) (h63 : n + m ≤ maxLen) (hbytes : (n + m) * bytes ≤ 140737488355328) (hbase : base ≤ w.heap.size) (H : Nat) (hH : w.heap.size = H)
    (h : ∀ g cap w', w'.ownsRow base e size (.slice (some ⟨g, 0, none⟩) (n + m) cap) (n + m) (xs ++ news) → w.grownBy w' v.ownBlock → (v.ownBlock = some g ∨ g = H) → g < w'.heap.size → wpList P ops Q rest (a.put o.dst (.slice (some ⟨g, 0, none⟩) (n + m) cap)) w') : wpList P ops Q (o :: rest) a w :=
  BigFrame.wpList_want hw fun _ hK => wp_append_lies w s x t ho base e i z size bytes ht hi hz hsize hby hzs hsz v n xs hs hown ad m c news hx hl hnews h1 hm h63 hbytes hbase H hH fun g cap w' h2 h3 h4 h5 => hK _ _ (h g cap w' h2 h3 h4 h5)

theorem ints_tail {w : World} {lo hi b off : Nat} {xs : List Int} (h : Ints w lo hi (some ⟨b, off, none⟩) 3 xs) : Ints w lo hi (some ⟨b, off + 1, none⟩) 2 (xs.drop 1) := by
  have hl := h.len
  obtain ⟨b', off', e, h1, h2, hc⟩ := h.2 (by omega)
  simp only [Option.some.injEq, Addr.mk.injEq, and_true] at e
  obtain ⟨rfl, rfl⟩ := e
  refine ⟨by simp [hl], fun _ => ⟨b, off + 1, rfl, h1, h2, fun j u hu => ?_⟩⟩
  have := hc (1 + j) u (by rw [← hu, List.map_drop, List.getElem?_drop])
  rw [show off + 1 + j = off + (1 + j) from by omega]
  exact this

end Go.Proofs.YtlmjgbonoihccaaDoor

namespace Go.Proofs.YtlmjgbonoihccaaDoor
open Go.RowKit Go.PlainAid

section
variable {A B : Option Addr} {n m c d : Nat} {ka kb : List Kv} {w : World} {sa sb ts : List Sb} {ok : Bool}
theorem iSibsMerge_e (h1 : HasS w A n ka) (h2 : HasS w B m kb) (hn : n ≤ maxLen) (hm : m ≤ maxLen) (ea : sbs ka = sa) (eb : sbs kb = sb) (ho : mergeOk sa sb = ok) (ht : mergeV sa sb = ts) :
    Calls Tryd.prog 22 #[.slice A n c, .slice B m d] w fun e w' => ∃ A' c' lr, e = .returned (.tuple #[.slice A' lr.length c', .bool ok]) ∧ Below w.heap.size w w' ∧ HasS w' A' lr.length lr ∧ lr.length ≤ 12 ∧ sbs lr = ts := by
  subst ea; subst eb; subst ho; subst ht
  exact (iSibsMerge_any A B n m c d ka kb w h1 h2 hn hm).mono fun _ _ h => h.has
theorem sSibsMerge_e (h1 : HasS w A n ka) (h2 : HasS w B m kb) (hn : n ≤ maxLen) (hm : m ≤ maxLen) (ea : sbs ka = sa) (eb : sbs kb = sb) (ho : mergeOk sa sb = ok) (ht : mergeV sa sb = ts) :
    Calls Tryd.prog 26 #[.slice A n c, .slice B m d] w fun e w' => ∃ A' c' lr, e = .returned (.tuple #[.slice A' lr.length c', .bool ok]) ∧ Below w.heap.size w w' ∧ HasS w' A' lr.length lr ∧ lr.length ≤ 12 ∧ sbs lr = ts := by
  subst ea; subst eb; subst ho; subst ht
  exact sSibsMerge_any A B n m c d ka kb w h1 h2 hn hm
theorem iSibsMerge_o (h1 : HasS w A n ka) (h2 : HasS w B m kb) (hn : n ≤ maxLen) (hm : m ≤ maxLen) (ea : sbs ka = sa) (eb : sbs kb = sb) (ho : mergeOk sa sb = ok) (ht : mergeV sa sb = ts) :
    Calls Tryd.prog 22 #[.slice A n c, .slice B m d] w fun e w' => ∃ A' c' lr, e = .returned (.tuple #[.slice A' lr.length c', .bool ok]) ∧ Below w.heap.size w w' ∧ OwnSibs w' w.heap.size w'.heap.size A' lr.length c' lr ∧ sbs lr = ts := by
  subst ea; subst eb; subst ho; subst ht
  exact iSibsMerge_any A B n m c d ka kb w h1 h2 hn hm
theorem lvSibs_e (h1 : HasS w A n ka) (h2 : HasS w B m kb) (hn : n ≤ maxLen) (ea : sbs ka = ts) (eb : sbs kb = ts) :
    Calls Tryd.prog 24 #[.slice A n c, .slice B m d] w fun e w' => e = .returned (.bool true) ∧ Below w.heap.size w w' :=
  (lvSibs_any A B n m c d ka kb w h1 h2 hn).mono fun _ _ ⟨he, hb⟩ => ⟨by rw [he, ea, eb, decide_eq_true rfl], hb⟩
end

section
variable {a b c : List Sb}
theorem merge_yes (ha : sibsOk a = true) (hb : sibsOk b = true) (hl : (mergeL a b).length ≤ 12) : mergeOk a b = true ∧ mergeV a b = mergeL a b := by
  have h : mergeOk a b = true := mergeOk_iff.2 ⟨ha, hb, by rw [mergeL_ok ha hb]; exact decide_eq_true hl⟩
  exact ⟨h, mergeV_yes h⟩
theorem merge_is {l : List Sb} (ha : sibsOk a = true) (hb : sibsOk b = true) (e : mergeL a b = l) (hl : sibsOk l = true) : mergeOk a b = true ∧ mergeV a b = l := by
  subst e
  exact merge_yes ha hb (sibsOk_iff.1 hl).2.2.2.2
theorem merge_swap (h : mergeOk a b = true) : mergeOk b a = true ∧ mergeV b a = mergeL a b := by
  obtain ⟨ha, hb, hl⟩ := mergeOk_iff.1 h
  exact merge_is hb ha (merge_comm (sibsOk_iff.1 hb).2.1 (sibsOk_iff.1 ha).2.1) hl
theorem merge_in (ha : sibsOk a = true) (hb : sibsOk b = true) (hs : ∀ x ∈ b, x ∈ a) : mergeOk a b = true ∧ mergeV a b = a := merge_is ha hb (merge_sub ha hs) ha
theorem merge_again_e (h : mergeOk a b = true) : mergeOk (mergeL a b) b = true ∧ mergeV (mergeL a b) b = mergeL a b := by
  obtain ⟨ha, hb, hl⟩ := mergeOk_iff.1 h
  exact merge_is hl hb (merge_again (sibsOk_iff.1 ha).2.1 (allOk ha) (allOk hb)) hl
theorem merge_three (h : mergeOk a b = true) (hc : sibsOk c = true) (hl : a.length + b.length + c.length ≤ 12) :
    (mergeOk (mergeL a b) c = true ∧ mergeV (mergeL a b) c = mergeL (mergeL a b) c) ∧ (mergeOk b c = true ∧ mergeV b c = mergeL b c) ∧ (mergeOk a (mergeL b c) = true ∧ mergeV a (mergeL b c) = mergeL (mergeL a b) c) := by
  obtain ⟨ha, hb, hm⟩ := mergeOk_iff.1 h
  have l1 := len_mergeL a b
  have l2 := len_mergeL (mergeL a b) c
  have l3 := len_mergeL b c
  have h1 := merge_yes hm hc (by omega)
  have h2 := merge_yes hb hc (by omega)
  refine ⟨h1, h2, merge_is ha (mergeOk_iff.1 h2.1).2.2 (merge_assoc (sibsOk_iff.1 ha).2.1 (allOk ha) (allOk hb) (allOk hc)) (mergeOk_iff.1 h1.1).2.2⟩
end

/-- 'append([]impl.Sib{}, l...)'. -/
theorem app_first {ops : Array Oper} {rest : List Oper} {o : Oper} {a : Act} {Q : Exit → Act → World → Prop} (W : World) (hgd : o.guard = none) (s x : Operand)
    (ho : o.op = .call { callee := .builtin .append, args := #[s, x], argTypes := #[23, 23] }) (w0 : World) (H : Nat) (hH : w0.heap.size = H) (hs : a.eval s = .slice (some ⟨H, 0, none⟩) 0 0) (ad : Addr) (n c : Nat) (ks : List Kv)
    (hI : HasS w0 (some ad) n ks) (h0 : 0 < n) (hn : n ≤ 100000) (hx : a.eval x = .slice (some ad) n c) (hW : W = w0.alloc (.cells #[] 31))
    (h : ∀ g cap w', w'.ownsRow w0.heap.size 31 3 (.slice (some ⟨g, 0, none⟩) n cap) n (flat ks) → Below w0.heap.size w0 w' → wpList Tryd.prog ops Q rest (a.put o.dst (.slice (some ⟨g, 0, none⟩) n cap)) w') :
    wpList Tryd.prog ops Q (o :: rest) a W := by
  subst hW
  obtain ⟨i0, hi0, hz0, hz1, hz2⟩ := info_parts infoSib
  subst hH
  have E0 : (w0.alloc (.cells #[] 31)).ownsRow w0.heap.size 31 3 (.slice (some ⟨w0.heap.size, 0, none⟩) 0 0) 0 [] := World.ownsRow_lit w0 #[] 0 (Nat.le_refl _) (by unfold maxLen; omega) rfl
  refine wpList_append_lies _ hgd s x 23 ho w0.heap.size 31 i0 _ 3 48 Tryd.underlying23 hi0 hz0 hz1 hz2 rfl (by omega) _ 0 [] hs E0 ad n c (flat ks) hx (by rw [flat_len, hI.len]) (Sibs.news (HasS.step hI (bel_alloc _ _))) (one_flat ks) h0 (by unfold maxLen; omega) (by omega) (by simp) (w0.heap.size + 1) (by simp) (fun g cap w' hown1 hg1 _ _ => ?_)
  have ho' : w'.ownsRow w0.heap.size 31 3 (.slice (some ⟨g, 0, none⟩) n cap) n (flat ks) := by simpa using hown1
  have := h g cap w' ho' (((Below.refl _ w0).alloc (Nat.le_refl _) _).grown hg1 (by simp) (fun g hg => (E0.lt g hg).1))
  simpa using this
/-- .. and one more list behind it. -/
theorem app_second {ops : Array Oper} {rest : List Oper} {o : Oper} {a : Act} {Q : Exit → Act → World → Prop} (W : World) (hgd : o.guard = none) (s x : Operand)
    (ho : o.op = .call { callee := .builtin .append, args := #[s, x], argTypes := #[23, 23] }) (base : Nat) (hbase : base ≤ W.heap.size) (g n cap : Nat) (ks : List Kv) (hs : a.eval s = .slice (some ⟨g, 0, none⟩) n cap)
    (hown : W.ownsRow base 31 3 (.slice (some ⟨g, 0, none⟩) n cap) n (flat ks)) (hn : n ≤ 100000) (ad : Addr) (m d : Nat) (ls : List Kv) (hI : HasS W (some ad) m ls) (h0 : 0 < m) (hm : m ≤ 100000) (hx : a.eval x = .slice (some ad) m d)
    (h : ∀ g' cap' w', w'.ownsRow base 31 3 (.slice (some ⟨g', 0, none⟩) (n + m) cap') (n + m) (flat (ks ++ ls)) → Below base W w' → W.heap.size ≤ w'.heap.size → wpList Tryd.prog ops Q rest (a.put o.dst (.slice (some ⟨g', 0, none⟩) (n + m) cap')) w') :
    wpList Tryd.prog ops Q (o :: rest) a W := by
  obtain ⟨i0, hi0, hz0, hz1, hz2⟩ := info_parts infoSib
  refine wpList_append_lies _ hgd s x 23 ho base 31 i0 _ 3 48 Tryd.underlying23 hi0 hz0 hz1 hz2 rfl (by omega) _ n (flat ks) hs hown ad m d (flat ls) hx (by rw [flat_len, hI.len]) (Sibs.news hI) (one_flat ls) h0 (by unfold maxLen; omega) (by omega) hbase W.heap.size rfl (fun g' cap' w' hown1 hg1 _ _ => ?_)
  exact h g' cap' w' (by rw [flat_append]; exact hown1) ((Below.refl _ W).grown hg1 hbase (fun q hq => (hown.lt q hq).1)) hg1.size

end Go.Proofs.YtlmjgbonoihccaaDoor

namespace Go.Proofs.YtlmjgbonoihccaaDoor
open Go.RowKit Go.PlainAid

theorem sibsOk_one {x : Sb} (h : sibOk x = true) : sibsOk [x] = true :=
  sibsOk_iff.2 ⟨fun y hy => by rw [List.mem_singleton.1 hy]; exact h, List.pairwise_singleton _ _, fun y hy z hz => by rw [List.mem_singleton.1 hy, List.mem_singleton.1 hz]; exact known_self, by simp⟩
theorem merge_next {l : List Sb} {s : Int} {t : ByteArray} (hl : sibsOk l = true) (hn : nextOk (joinAll l) s = true) (ht : textOk t = true) :
    mergeOk l [⟨vvNext (joinAll l) s, false, t⟩] = true ∧ mergeV l [⟨vvNext (joinAll l) s, false, t⟩] = [⟨vvNext (joinAll l) s, false, t⟩] := by
  have hv := joinAll_ok (allOk hl)
  have ho := vvOk_next hn
  obtain ⟨h1, h2⟩ := next_in hn
  rw [inOk_yes hv ho] at h1
  rw [inOk_yes ho hv] at h2
  have hs : sibsOk [(⟨vvNext (joinAll l) s, false, t⟩ : Sb)] = true := sibsOk_one (by simp [sibOk, ho, ht])
  exact merge_is hl hs (merge_above (sibsOk_iff.1 hl).2.1 (allOk hl) hv ho (fun x hx => joinAll_in (allOk hl) hx) h1 h2) hs
theorem merge_part {l : List Sb} {x : Sb} (hl : sibsOk l = true) (hx : x ∈ l) : mergeOk l [x] = true ∧ mergeV l [x] = l :=
  merge_in hl (sibsOk_one ((sibsOk_iff.1 hl).1 x hx)) (fun y hy => by rw [List.mem_singleton.1 hy]; exact hx)
theorem vv_merge {a b : List Sb} (h : mergeOk a b = true) : vvSibs (mergeL a b) = vvJoinOk (vvSibs a) (vvSibs b) := by
  obtain ⟨ha, hb, hm⟩ := mergeOk_iff.1 h
  rw [vvSibs_yes ha, vvSibs_yes hb, vvSibs_yes hm, joinOk_yes (joinAll_ok (allOk ha)) (joinAll_ok (allOk hb))]
  exact join_merge (allOk ha) (allOk hb)
theorem join_step {ss : List Sb} (h : ∀ x ∈ ss, vvOk x.vv = true) {k : Nat} {x : Sb} (hx : ss[k]? = some x) : vvJoinOk (joinTo ss k) x.vv = joinTo ss (k + 1) := by
  rw [joinOk_yes (joinTo_ok h k) (h x (List.mem_of_getElem? hx)), joinTo_succ hx]
theorem joinTo_len {ss : List Sb} (h : ∀ x ∈ ss, vvOk x.vv = true) (k : Nat) : (joinTo ss k).length = 3 := vvOk_len (joinTo_ok h k)
theorem lvInts_e {A B : Option Addr} {n m c d : Nat} {xs ys ts : List Int} {w : World} (h1 : Has w A n xs) (h2 : Has w B m ys) (hn : n ≤ maxLen) (ea : xs = ts) (eb : ys = ts) :
    Calls Tryd.prog 17 #[.slice A n c, .slice B m d] w fun e w' => e = .returned (.bool true) ∧ Below w.heap.size w w' :=
  (lvInts_h h1 h2 hn).mono fun _ _ ⟨he, hb⟩ => ⟨by rw [he, ea, eb, decide_eq_true rfl], hb⟩
theorem iSibsVv_k {A : Option Addr} {n c : Nat} {ks : List Kv} {ts : List Int} {w : World} (h : HasS w A n ks) (hn : n ≤ maxLen) (ht : vvSibs (sbs ks) = ts) :
    Calls Tryd.prog 16 #[.slice A n c] w fun e w' => ∃ A' c', e = .returned (.slice A' ts.length c') ∧ Below w.heap.size w w' ∧ Has w' A' ts.length ts :=
  (iSibsVv_e h hn ht).mono fun _ _ ⟨A', c', he, hb, ho⟩ => ⟨A', c', he, hb, Has.own ho⟩
theorem sSibsVv_k {A : Option Addr} {n c : Nat} {ks : List Kv} {ts : List Int} {w : World} (h : HasS w A n ks) (hn : n ≤ maxLen) (ht : vvSibs (sbs ks) = ts) :
    Calls Tryd.prog 18 #[.slice A n c] w fun e w' => ∃ A' c', e = .returned (.slice A' ts.length c') ∧ Below w.heap.size w w' ∧ Has w' A' ts.length ts :=
  (sSibsVv_e h hn ht).mono fun _ _ ⟨A', c', he, hb, ho⟩ => ⟨A', c', he, hb, Has.own ho⟩
theorem sSibsOk_k {A : Option Addr} {n c : Nat} {ks : List Kv} {ok : Bool} {w : World} (h : HasS w A n ks) (hn : n ≤ maxLen) (ht : sibsOk (sbs ks) = ok) :
    Calls Tryd.prog 19 #[.slice A n c] w fun e w' => e = .returned (.bool ok) ∧ Below w.heap.size w w' := by
  subst ht; exact sSibsOk_any A n c ks w h hn
theorem iVvJoin_k {A B : Option Addr} {n m c d : Nat} {xs ys ts : List Int} {w : World} (h1 : Has w A n xs) (h2 : Has w B m ys) (hn : n ≤ maxLen) (hm : m ≤ maxLen) (ht : vvJoinOk xs ys = ts) :
    Calls Tryd.prog 20 #[.slice A n c, .slice B m d] w fun e w' => ∃ A' c', e = .returned (.slice A' ts.length c') ∧ Below w.heap.size w w' ∧ Has w' A' ts.length ts := by
  subst ht; exact iVvJoin_h h1 h2 hn hm
theorem iVvNext_k {A : Option Addr} {n c : Nat} {xs ts : List Int} {ok : Bool} {w : World} (h : Has w A n xs) (hn : n ≤ maxLen) (s : Int) (ho : nextOk xs s = ok) (ht : vvNext xs s = ts) :
    Calls Tryd.prog 23 #[.slice A n c, .int .i64 s] w fun e w' => ∃ A' c', e = .returned (.tuple #[.slice A' ts.length c', .bool ok]) ∧ Below w.heap.size w w' ∧ Has w' A' ts.length ts := by
  subst ho; subst ht; exact iVvNext_h h hn s

set_option maxRecDepth 100000 in
/-- The same with the drawn list's capacity. -/
theorem DrawSibsShow_cap (A : Option Addr) (n c : Nat) (zs : List Int) (w : World) (h : Came w A n c zs) :
    Calls Tryd.prog 21 #[.slice A n c] w fun e w' => ∃ gg c' ks, e = .returned (.slice (some ⟨gg, 0, none⟩) ks.length c') ∧ ks.length ≤ 5 ∧ ks.length ≤ c' ∧ Below w.heap.size w w' ∧ HasS w' (some ⟨gg, 0, none⟩) ks.length ks := by
  have H := Lib.hid h
  clear h
  go_enter Tryd.func21, Tryd.ntmps21
  go_wp2_with fail
  refine (open_any A n c zs _ H.out).mono ?_
  rintro e w1 ⟨g, rfl, hg, hb, hR⟩
  have B1 := Lib.hid hb
  have R1 := Lib.hid hR
  clear hb hR
  go_wp2_with fail
  refine (l71Sibs_any g 0 _ R1.out (by omega)).mono ?_
  rintro e w2 ⟨gg, c2, ks, rfl, hl, hD, p2, hp2, hR⟩
  have D2 := Lib.hid hD
  have hs := B1.out.size
  clear hD hR
  go_wp2
  go_ret
  exact ⟨gg, c2, ks, rfl, hl, own_cap D2.out.row, B1.out.trans (D2.out.gro.below hg hs), D2.out.has⟩

end Go.Proofs.YtlmjgbonoihccaaDoor

namespace Go.Proofs.YtlmjgbonoihccaaDoor

theorem has_known {a b : List Sb} {x : Sb} (hx : x ∈ a ++ b) : hasB (mergeL a b) x = !(a ++ b).any (known x) := by
  rw [Bool.eq_iff_iff, hasB_iff, mem_mergeL, Bool.not_eq_true', List.any_eq_false]
  constructor
  · rintro ⟨_, h⟩ y hy
    rw [h y (List.mem_append.1 hy)]
    exact Bool.false_ne_true
  · intro h
    exact ⟨List.mem_append.1 hx, fun y hy => by simpa using h y (List.mem_append.2 hy)⟩

end Go.Proofs.YtlmjgbonoihccaaDoor
