
/-
  Contract of copySibs. compareSibs, in the form that the shelf's slices.SortFunc wants: it may draw and lay blocks, and turns nothing. slices.SortFunc of versions by compareSibs (the shelf's contract), on a row that the call has made. What slices.CompactFunc keeps of a list of versions: whoever is not the same as the one ahead. (Plain.) Contracts of the two closures of mergeSibs. 'clear(s)' of a slice whose elements have several cells. Contract of slices.CompactFunc at versions. Contract of mergeSibs. Contracts of SibsMerge, the program's and the reference's.
-/
import Derived.Test.YtlmjgbonoihccaaDoorSibsN
import Derived.Test.YtlmjgbonoihccaaDoorSibsQ
import Derived.Test.YtlmjgbonoihccaaDoorSibC
import Derived.Sort.Grow
import Derived.Test.YtlmjgbonoihccaaDoorDrawL
import Derived.Test.YtlmjgbonoihccaaDoorShelfSort
import Derived.Test.YtlmjgbonoihccaaDoorSibK
import Derived.Test.YtlmjgbonoihccaaDoorSibsC
import Derived.Lib.SliceRun
import Derived.Deep.Upon
import Derived.Test.YtlmjgbonoihccaaDoorSibsH
import Derived.Test.YtlmjgbonoihccaaDoorSibsB
import Derived.Test.YtlmjgbonoihccaaDoorSibsD
import Derived.Test.YtlmjgbonoihccaaDoorSibsJ
namespace Go.Proofs.YtlmjgbonoihccaaDoor
open Go.RowKit Go.PlainAid

set_option maxRecDepth 100000 in
set_option maxHeartbeats 1600000 in
theorem copySibs_any (A : Option Addr) (n c : Nat) (ks : List Kv) (w : World) (h : HasS w A n ks) (hn : n ≤ 1000) (h3 : ∀ k ∈ ks, k.n = 3) :
    Calls Tryd.prog 82 #[.slice A n c] w fun e w' => ∃ g' c' lr, e = .returned (.slice (some ⟨g', 0, none⟩) lr.length c') ∧ Below w.heap.size w w' ∧ w'.ownsRow w.heap.size 31 3 (.slice (some ⟨g', 0, none⟩) lr.length c') lr.length (flat lr) ∧ (∀ k ∈ lr, k.Own w' w.heap.size w'.heap.size) ∧ (∀ k ∈ lr, k.blk ≠ some g') ∧ sbs lr = sbs ks ∧ lr.Pairwise Apart := by
  have H := Lib.hid h
  have HL := Lib.hid h.len
  have H3 := Lib.hid h3
  clear h h3
  go_enter Tryd.func82, Tryd.ntmps82
  go_wp2
  go_loopw [3, 9] (fun v i wr => ∃ (k : Nat) (ls : List Kv) (gg cc : Nat), k ≤ n ∧ i = .int .i64 k ∧ v = .slice (some ⟨gg, 0, none⟩) ls.length cc ∧ Hid (sbs ls = (sbs ks).take k) ∧ Hid (Below w.heap.size w wr) ∧ Hid (wr.ownsRow w.heap.size 31 3 v ls.length (flat ls)) ∧ Hid (∀ x ∈ ls, x.Own wr w.heap.size wr.heap.size) ∧ Hid (∀ x ∈ ls, x.blk ≠ some gg) ∧ Hid (ls.Pairwise Apart)) (fun _ i _ => n - (intOf i).toNat)
  case atStart => exact ⟨0, [], _, 0, Nat.zero_le _, rfl, rfl, rfl, bel_alloc _ _, World.ownsRow_lit w #[] 0 (Nat.le_refl _) (by unfold maxLen; omega) rfl, (fun x hx => by cases hx), (fun x hx => by cases hx), List.Pairwise.nil⟩
  case round =>
    obtain ⟨k, ls, gg, cc, hk, rfl, rfl, HS, HB, HO, HOW, HOF, HPA⟩ := hrel
    have hll : ls.length ≤ k := by
      have h2 := congrArg List.length HS.out
      rw [sbs_len, List.length_take, sbs_len, HL.out] at h2
      omega
    have hsz := HB.out.size
    by_cases hlt : k < n
    · obtain ⟨b, off, A', n', c', vv, g, t, rfl, hbl, c0, c1, c2, I, hn', ht', hx⟩ := H.out.at_ hlt
      have q0 := cell_upC HB.out c0
      have q1 := cell_upC HB.out c1
      have q2 := cell_upC HB.out c2
      have N3 : Hid (n' = 3) := Lib.hid (H3.out _ (List.mem_of_getElem? hx.out))
      have W4 := bel_alloc wr (.cells #[.slice A' n' c', .bool g, .string t] 31)
      have V4 := Lib.hid (Var3.new 31 wr (.slice A' n' c') (.bool g) (.string t))
      have I4 := Lib.hid ((I.step HB.out).step W4)
      have HW4 := Lib.hid W4
      have hgl := (HO.out.lt gg rfl).2
      clear W4 c0 c1 c2 I
      go_upto_region 6 with (at_builtin; go_must (refine app_ints _ rfl (.tmp 13) (.tmp 15) rfl (wr.alloc (.cells #[.slice A' n' c', .bool g, .string t] 31)) (wr.heap.size + 1) (by simp) rfl A' n' c' vv I4.out (by have := N3.out; omega) (by have := N3.out; omega) rfl rfl ?_; intro g5 c5' w5 ho5 hb5
                                                  have V5 := V4.out.step hb5
                                                  have p0 := V5.c0
                                                  have p1 := V5.c1
                                                  have p2 := V5.c2
                                                  have f0 := V5.f 0
                                                  have HV5 := Lib.hid V5
                                                  have HO5 := Lib.hid ho5
                                                  have HB5 := Lib.hid hb5
                                                  clear V5 ho5 hb5))
      have V6 := Lib.hid (HV5.out.set0 (.slice (some ⟨g5, 0, none⟩) n' c5'))
      have h5 : wr.heap.size + 1 ≤ w5.heap.size := by have := HB5.out.size; simp at this; omega
      have B6 : Hid (Below wr.heap.size wr (w5.setCell ⟨wr.heap.size, 0, none⟩ (.slice (some ⟨g5, 0, none⟩) n' c5'))) := Lib.hid ((HW4.out.trans (HB5.out.mono (by simp))).setCell (p := ⟨wr.heap.size, 0, none⟩) (Nat.le_refl _) _)
      have S6 : (w5.setCell ⟨wr.heap.size, 0, none⟩ (.slice (some ⟨g5, 0, none⟩) n' c5')).heap.size = w5.heap.size := by simp [World.setCell]
      have O6 := Lib.hid (row_keep HO.out (fun q hq => B6.out.block q (HO.out.lt q hq).2))
      have OI6 : Hid (OwnInts (w5.setCell ⟨wr.heap.size, 0, none⟩ (.slice (some ⟨g5, 0, none⟩) n' c5')) (wr.heap.size + 1) w5.heap.size (some ⟨g5, 0, none⟩) n' c5' vv) := Lib.hid ((show OwnInts w5 (wr.heap.size + 1) w5.heap.size (some ⟨g5, 0, none⟩) n' c5' vv by simpa using HO5.out).setC (q := ⟨wr.heap.size, 0, none⟩) (.inl (Nat.lt_succ_self _)))
      have OK6 := Lib.hid (fun x hx => (HOW.out x hx).keepB (fun q hq => B6.out.block q ((HOW.out x hx).lt hq).2))
      have N6 : Hid (n' ≤ 1048576) := Lib.hid (by have := N3.out; omega)
      have WX6 := Lib.hid (HB.out.trans (B6.out.mono (by omega)))
      generalize hw6 : w5.setCell ⟨wr.heap.size, 0, none⟩ (.slice (some ⟨g5, 0, none⟩) n' c5') = w6 at V6 B6 S6 O6 OI6 OK6 WX6 ⊢
      have r0 := V6.out.c0
      have r1 := V6.out.c1
      have r2 := V6.out.c2
      clear hw6 p0 p1 p2 f0 q0 q1 q2
      go_wp2_with (at_builtin; go_must (refine app_sib2 _ rfl (.tmp 18) (.tmp 20) rfl w6 w.heap.size (by omega) _ _ _ rfl O6.out (by omega) ⟨some ⟨g5, 0, none⟩, n', c5', vv, g, t⟩ w5.heap.size S6 rfl rfl ?_; intro g8 c8 w8 ho8 hb8 hs8 hat8 hfr8))
      have HB8 := Lib.hid (WX6.out.trans (hb8.mono (Nat.le_refl _)))
      have HO8 := Lib.hid ho8
      have HA8 := Lib.hid hat8
      have HF8 := Lib.hid hfr8
      clear ho8 hb8 hat8 hfr8
      go_wp2
      go_roundw
      case rel =>
        have hkv : ∀ q, (⟨some ⟨g5, 0, none⟩, n', c5', vv, g, t⟩ : Kv).blk = some q → wr.heap.size + 1 ≤ q ∧ q < w5.heap.size := fun q hq => ⟨(OI6.out.1.lt q hq).1, OI6.out.2 q hq⟩
        have hg8 : g8 = gg ∨ w6.heap.size < g8 := HA8.out.imp (fun e => by injection e with e; exact e.symm) id
        refine ⟨k + 1, ls ++ [⟨some ⟨g5, 0, none⟩, n', c5', vv, g, t⟩], g8, c8, by omega, by go_num, by simp, ?_, HB8.out, ?_, ?_, ?_, ?_⟩
        · have hxs := sbs_at hx.out
          obtain ⟨hk', e⟩ := List.getElem?_eq_some_iff.1 hxs
          show sbs _ = (sbs ks).take (k + 1)
          rw [List.take_succ_eq_append_getElem hk', e, sbs_append, HS.out]; rfl
        · have e : (ls ++ [(⟨some ⟨g5, 0, none⟩, n', c5', vv, g, t⟩ : Kv)]).length = ls.length + 1 := by simp
          rw [e]; exact HO8.out
        · intro x hx
          rcases List.mem_append.1 hx with hx | hx
          · have ho := OK6.out x hx
            refine (ho.keepB (fun q hq => HF8.out q (by have := (ho.lt hq).2; omega) (fun e => ?_))).wide (Nat.le_refl _) (by omega)
            injection e with e
            exact HOF.out x hx (hq.trans (congrArg some (show q = gg from e.symm)))
          · rw [List.mem_singleton] at hx
            subst hx
            have ho : (⟨some ⟨g5, 0, none⟩, n', c5', vv, g, t⟩ : Kv).Own w6 (wr.heap.size + 1) w5.heap.size := ⟨OI6.out, N6.out, ht'⟩
            refine (ho.keepB (fun q hq => HF8.out q (by have := hkv q hq; omega) (fun e => ?_))).wide (by omega) (by omega)
            injection e with e
            have := hkv q hq
            have e' : gg = q := e
            omega
        · intro x hx he
          rcases List.mem_append.1 hx with hx | hx
          · rcases hg8 with h | h
            · exact HOF.out x hx (by rw [he, h])
            · have := ((HOW.out x hx).lt he).2
              omega
          · rw [List.mem_singleton] at hx
            subst hx
            have := hkv g8 he
            rcases hg8 with h | h <;> omega
        · refine List.pairwise_append.2 ⟨HPA.out, List.pairwise_singleton _ _, fun x hx y hy q hq he => ?_⟩
          rw [List.mem_singleton] at hy
          subst hy
          have h1 := ((HOW.out x hx).lt hq).2
          have h2 := (hkv q he).1
          omega
      case measure => simp [intOf]; omega
    · go_wp2
      go_ret
      refine ⟨gg, cc, ls, rfl, HB.out, HO.out, HOW.out, HOF.out, ?_, HPA.out⟩
      rw [HS.out, List.take_of_length_le (by rw [sbs_len, HL.out]; omega)]

end Go.Proofs.YtlmjgbonoihccaaDoor

namespace Go.Proofs.YtlmjgbonoihccaaDoor
open Go.RowKit Go.PlainAid

/-- Nothing that was there is turned; the draws only go on. -/
def Lays (w w' : World) : Prop := Below w.heap.size w w' ∧ w.drawn ≤ w'.drawn
theorem Lays.refl (w : World) : Lays w w := ⟨Below.refl _ _, Nat.le_refl _⟩
theorem Lays.trans {a b c : World} (h : Lays a b) (k : Lays b c) : Lays a c := ⟨h.1.trans (k.1.mono h.1.size), Nat.le_trans h.2 k.2⟩
theorem Lays.drew {a b : World} (h : Lays a b) : Lays a b.drew := ⟨h.1.drew, Nat.le_trans h.2 (Nat.le_succ _)⟩
theorem lays_alloc (w : World) (o : Obj) : Lays w (w.alloc o) := ⟨bel_alloc w o, Nat.le_refl _⟩
theorem lays_of_eq {w w' : World} (h : w = w') : Lays w w' := by subst h; exact Lays.refl _
theorem Lays.grow {w w' : World} (h : Lays w w') : ∃ q os, w' = Go.Sort.grow (w.drewN q) os := by
  refine ⟨w'.drawn - w.drawn, w'.heap.extract w.heap.size w'.heap.size, ?_⟩
  have e1 : w'.heap = w.heap ++ w'.heap.extract w.heap.size w'.heap.size := by
    apply Array.ext_getElem?
    intro k
    have hs := h.1.size
    by_cases hk : k < w.heap.size
    · rw [Array.getElem?_append_left hk]
      exact h.1.block k hk
    · rw [Array.getElem?_append_right (by omega), Array.getElem?_extract]
      by_cases hk2 : k < w'.heap.size
      · rw [if_pos (by omega)]
        congr 1
        omega
      · rw [if_neg (by omega), Array.getElem?_eq_none (by omega)]
  have e2 : w'.drawn = w.drawn + (w'.drawn - w.drawn) := by have := h.2; omega
  obtain ⟨hp, tp, dr, os, ou⟩ := w'
  have e3 := h.1.os
  have e4 := h.1.tape
  have e5 := h.1.output
  simp only at e1 e2 e3 e4 e5
  subst e3
  subst e4
  subst e5
  unfold Go.Sort.grow World.drewN
  simp only
  rw [← e2]
  congr 1

theorem compare_l {A B : Option Addr} {n m c d : Nat} {xs ys : List Int} {w : World} (h1 : Has w A n xs) (h2 : Has w B m ys) (hn : n ≤ maxLen) :
    Calls Tryd.prog 96 #[.slice A n c, .slice B m d] w fun e w' => e = .returned (.int .i64 (cmpV xs ys)) ∧ Lays w w' :=
  (compare_any A B n m c d xs ys w _ _ _ _ h1 h2 hn).mono fun _ _ ⟨he, hw⟩ => ⟨he, lays_of_eq hw⟩
theorem cmpInt_l (a b : Int) (w : World) : Calls Tryd.prog 97 #[.int .i64 a, .int .i64 b] w fun e w' => e = .returned (.int .i64 (cmpI a b)) ∧ Lays w w' :=
  (cmpInt_any a b w).mono fun _ _ ⟨he, hw⟩ => ⟨he, lays_of_eq hw⟩
theorem cmpStr_l (t u : ByteArray) (w : World) : Calls Tryd.prog 98 #[.string t, .string u] w fun e w' => e = .returned (.int .i64 (cmpT t u)) ∧ Lays w w' :=
  (cmpStr_any t u w).mono fun _ _ ⟨he, hw⟩ => ⟨he, lays_of_eq hw⟩
theorem or_l {A : Option Addr} {n c : Nat} {xs : List Int} {w : World} (h : Has w A n xs) (hn : n ≤ maxLen) : Calls Tryd.prog 95 #[.slice A n c] w fun e w' => e = .returned (.int .i64 (orL xs)) ∧ Lays w w' :=
  (or_any A n c xs w _ _ h hn).mono fun _ _ ⟨he, hw⟩ => ⟨he, lays_of_eq hw⟩
set_option maxRecDepth 100000 in
theorem gone_l (A : Option Addr) (n c : Nat) (g : Bool) (t : ByteArray) (w : World) :
    Calls Tryd.prog 94 #[.agg #[.slice A n c, .bool g, .string t]] w fun e w' => e = .returned (.int .i64 (goneI g)) ∧ Lays w w' := by
  cases g
  · go_enter Tryd.func94, Tryd.ntmps94
    go_wp2
    go_ret
    exact ⟨rfl, lays_alloc _ _⟩
  · go_enter Tryd.func94, Tryd.ntmps94
    go_wp2
    go_ret
    exact ⟨rfl, lays_alloc _ _⟩

set_option maxRecDepth 100000 in
set_option maxHeartbeats 1600000 in
theorem compareSibs_lays (A B : Option Addr) (n m c d : Nat) (xs ys : List Int) (g g' : Bool) (t u : ByteArray) (w : World) (h1 : Has w A n xs) (h2 : Has w B m ys) (hn : n ≤ maxLen) :
    Calls Tryd.prog 70 #[.agg #[.slice A n c, .bool g, .string t], .agg #[.slice B m d, .bool g', .string u]] w fun e w' => e = .returned (.int .i64 (cmpS ⟨xs, g, t⟩ ⟨ys, g', u⟩)) ∧ Lays w w' := by
  have b1 := bel_alloc w (.cells #[.slice A n c, .bool g, .string t] 31)
  have b2 := bel_alloc (w.alloc (.cells #[.slice A n c, .bool g, .string t] 31)) (.cells #[.slice B m d, .bool g', .string u] 31)
  have BW := Lib.hid ((lays_alloc w (.cells #[.slice A n c, .bool g, .string t] 31)).trans (lays_alloc (w.alloc (.cells #[.slice A n c, .bool g, .string t] 31)) (.cells #[.slice B m d, .bool g', .string u] 31)))
  have I1 := Lib.hid ((h1.step b1).step b2)
  have I2 := Lib.hid ((h2.step b1).step b2)
  have V1 := Lib.hid ((Var3.new 31 w (.slice A n c) (.bool g) (.string t)).step b2)
  have V2 : Hid (Var3 31 ((w.alloc (.cells #[.slice A n c, .bool g, .string t] 31)).alloc (.cells #[.slice B m d, .bool g', .string u] 31)) (w.heap.size + 1) (.slice B m d) (.bool g') (.string u)) :=
    Lib.hid (by simpa using Var3.new 31 (w.alloc (.cells #[.slice A n c, .bool g, .string t] 31)) (.slice B m d) (.bool g') (.string u))
  have HS := Lib.hid (or_cmpS xs ys g g' t u)
  clear b1 b2 h1 h2
  go_enter Tryd.func70, Tryd.ntmps70
  go_wp2
  go_region_held3 (fun w' => w'.cell? ⟨w.heap.size, 0, none⟩ = some (.slice A n c) ∧ w'.cell? ⟨w.heap.size, 1, none⟩ = some (.bool g) ∧ w'.cell? ⟨w.heap.size, 2, none⟩ = some (.string t) ∧ w'.cell? ⟨w.heap.size + 1, 0, none⟩ = some (.slice B m d) ∧ w'.cell? ⟨w.heap.size + 1, 1, none⟩ = some (.bool g') ∧ w'.cell? ⟨w.heap.size + 1, 2, none⟩ = some (.string u) ∧ Has w' A n xs ∧ Has w' B m ys ∧ Lays w w')
    (first
      | exact ⟨V1.out.c0, V1.out.c1, V1.out.c2, V2.out.c0, V2.out.c1, V2.out.c2, by exact I1.out, by exact I2.out, BW.out.drew⟩
      | (go_split_ands
         exact ⟨cell_upC hb.1 (by assumption), cell_upC hb.1 (by assumption), cell_upC hb.1 (by assumption), cell_upC hb.1 (by assumption), cell_upC hb.1 (by assumption), cell_upC hb.1 (by assumption), Has.step (by assumption) hb.1, Has.step (by assumption) hb.1, Lays.trans (by assumption) hb⟩)
      | (go_split_ands
         exact ⟨cell_upC (bel_alloc _ _) (by assumption), cell_upC (bel_alloc _ _) (by assumption), cell_upC (bel_alloc _ _) (by assumption), cell_upC (bel_alloc _ _) (by assumption), cell_upC (bel_alloc _ _) (by assumption), cell_upC (bel_alloc _ _) (by assumption), Has.step (by assumption) (bel_alloc _ _), Has.step (by assumption) (bel_alloc _ _), Lays.trans (by assumption) (lays_alloc _ _)⟩))
    (first
      | (go_at_call 96; go_split_ands; refine (compare_l (by assumption) (by assumption) hn).mono ?_; rintro e w6 ⟨rfl, hb⟩)
      | (go_at_call 94; refine (gone_l _ _ _ _ _ _).mono ?_; rintro e w6 ⟨rfl, hb⟩)
      | (go_at_call 97; refine (cmpInt_l _ _ _).mono ?_; rintro e w6 ⟨rfl, hb⟩)
      | (go_at_call 98; refine (cmpStr_l _ _ _).mono ?_; rintro e w6 ⟨rfl, hb⟩)
      | (go_at_call 95; refine (or_l (Has.three _ _ _ _) (by unfold maxLen; omega)).mono ?_; rintro e w6 ⟨rfl, hb⟩))
  all_goals go_split_ands
  all_goals go_wp2
  all_goals go_ret
  all_goals exact ⟨ret_int HS.out, by assumption⟩

end Go.Proofs.YtlmjgbonoihccaaDoor

namespace Go.Proofs.YtlmjgbonoihccaaDoor
open Go.RowKit Go.PlainAid Go.Shelf Go.Sort

/-- A version whose counts lie outside the row. -/
def Good (w : World) (blk : Nat) (k : Kv) : Prop := k.Ok w 0 w.heap.size ∧ (0 < k.n → k.blk ≠ some blk)
abbrev KvIn (w : World) (blk : Nat) := { k : Kv // Good w blk k }
instance (w : World) (blk : Nat) : Inhabited (KvIn w blk) := ⟨⟨⟨none, 0, 0, ⟨[], false, ⟨#[]⟩⟩⟩, ⟨Row.nil _ _ _ _ _, Nat.zero_le _, Nat.zero_le _⟩, fun h => absurd h (Nat.lt_irrefl 0)⟩⟩
def encK {w : World} {blk : Nat} (x : KvIn w blk) : List Value := x.1.enc
def cfK {w : World} {blk : Nat} (x y : KvIn w blk) : Int := cmpS x.1.s y.1.s

theorem sort_block {α : Type} [Inhabited α] (enc : α → List Value) (k : Nat) (w : World) (blk off m : Nat) (dk : Array α) (os : Array Obj) {q : Nat} (hq : q < w.heap.size) (hne : q ≠ blk) :
    (sortWorldK enc k w blk off m dk os).heap[q]? = w.heap[q]? := by
  unfold sortWorldK
  rw [heap_grow_old _ _ (by rw [size_putRowK]; exact hq)]
  show ((w.heap.modify blk (onCells _))[q]?) = _
  rw [Array.getElem?_modify, if_neg (fun e => hne e.symm)]

theorem gro_sort {α : Type} [Inhabited α] (enc : α → List Value) (k : Nat) (w : World) (blk off m : Nat) (dk : Array α) (os : Array Obj) : Gro blk w (sortWorldK enc k w blk off m dk os) :=
  ⟨rfl, rfl, rfl, size_sortWorldK_c enc k w blk off m dk os, fun _ hq hne => sort_block enc k w blk off m dk os hq hne⟩

theorem ltK_iff {w : World} {blk : Nat} {x y : KvIn w blk} : ltOf cfK x y = true ↔ cmpS x.1.s y.1.s = -1 := by
  unfold ltOf cfK
  rw [decide_eq_true_iff]
  have := cmpS_good.one x.1.s y.1.s
  omega
theorem ltK_not {w : World} {blk : Nat} {x y : KvIn w blk} : ltOf cfK x y = false ↔ cmpS x.1.s y.1.s ≠ -1 := by
  rw [← Bool.not_eq_true, ltK_iff]
theorem swoK (w : World) (blk : Nat) : SWO (ltOf (cfK (w := w) (blk := blk))) where
  irrefl x := by rw [ltK_not, cmpS_good.same]; omega
  trans x y z h1 h2 := by
    rw [ltK_iff] at *
    exact cmpS_good.trans _ _ _ h1 h2
  ntrans x y z h1 h2 := by
    rw [ltK_not] at *
    intro h3
    rcases cmpS_good.one x.1.s y.1.s with h | h | h
    · exact h1 h
    · have e := cmpS_good.eq _ _ h
      rw [e] at h3
      exact h2 h3
    · have := cmpS_good.anti x.1.s y.1.s
      exact h2 (cmpS_good.trans _ _ _ (by omega) h3)

theorem cmpLays_sib (w : World) (blk off size : Nat) : CmpLays Tryd.prog 70 #[] (encK (w := w) (blk := blk)) 3 cfK blk off size w := by
  intro m os dk _ x y
  have hG := gro_sort (encK (w := w) (blk := blk)) 3 w blk off m dk os
  have key : ∀ z : KvIn w blk, Has (sortWorldK (encK (w := w) (blk := blk)) 3 w blk off m dk os) z.1.A z.1.n z.1.s.vv := fun z =>
    ((z.2.1.keepB (fun hn q hq => hG.block q (z.2.1.lt hn hq).2 (fun e => z.2.2 hn (by rw [hq, e])))).wide (Nat.le_refl _) hG.size).1
  exact (compareSibs_lays x.1.A y.1.A x.1.n y.1.n x.1.c y.1.c x.1.s.vv y.1.s.vv x.1.s.gone y.1.s.gone x.1.s.text y.1.s.text _ (key x) (key y) x.2.1.2.1).mono fun _ _ ⟨he, hl⟩ => ⟨he, hl.grow⟩

theorem flatK_flat {w : World} {blk : Nat} (d : Array (KvIn w blk)) {j : Nat} (hj : j < d.size * 3) : (flat (d.toList.map (·.1)))[j]? = some ((flatK encK 3 d)[j]!) := by
  rw [get_flatK _ _ _ _ hj]
  have hq : j / 3 < d.size := by omega
  have hd : d[j / 3]! = d[j / 3] := getElem!_pos d (j / 3) hq
  rw [hd]
  have hk : (d.toList.map (·.1))[j / 3]? = some d[j / 3].1 := by simp [hq]
  obtain ⟨f0, f1, f2⟩ := flat_at hk
  have hm : j % 3 = 0 ∨ j % 3 = 1 ∨ j % 3 = 2 := by omega
  rcases hm with h | h | h
  · rw [show j / 3 * 3 = j by omega] at f0
    rw [h]; exact f0
  · rw [show j / 3 * 3 + 1 = j by omega] at f1
    rw [h]; exact f1
  · rw [show j / 3 * 3 + 2 = j by omega] at f2
    rw [h]; exact f2

theorem sortSibs_any (blk n cap base : Nat) (ks : List Kv) (w : World) (ho : w.ownsRow base 31 3 (.slice (some ⟨blk, 0, none⟩) n cap) n (flat ks)) (hk : ∀ k ∈ ks, Good w blk k) (hn : n ≤ 100000) :
    Calls Tryd.prog 83 #[.slice (some ⟨blk, 0, none⟩) n cap, .func (.func 70) #[] #[]] w fun e w' => e = .returned (.tuple #[]) ∧ ∃ ks', ks'.Perm ks ∧ ks'.Pairwise (fun x y => cmpS y.s x.s ≠ -1) ∧ w'.ownsRow base 31 3 (.slice (some ⟨blk, 0, none⟩) n cap) n (flat ks') ∧ Gro blk w w' := by
  obtain ⟨d, hd⟩ : ∃ d : Array (KvIn w blk), d.toList.map (·.1) = ks := ⟨(ks.attach.map fun k => ⟨k.1, hk k.1 k.2⟩).toArray, by simp⟩
  have hl : ks.length = n := by have := ho.1; rw [flat_len] at this; omega
  have hs : d.size = n := by rw [← hl, ← hd]; simp
  rcases ho.2 with ⟨h, _⟩ | ⟨g, cp, cur, hv, hb, hg, hnc, hcm, hcs, hct⟩
  · cases h
  injection hv with e1 _ e3
  injection e1 with e1
  injection e1 with e1
  subst e1
  subst e3
  have hblk : blk < w.heap.size := (ho.lt blk rfl).2
  have hH : HoldsK (encK (w := w) (blk := blk)) 3 w blk 0 d := by
    intro j hj
    rw [size_flatK] at hj
    have h1 := flatK_flat d hj
    rw [hd, ← hct, List.getElem?_take] at h1
    rw [if_pos (by omega)] at h1
    refine ⟨?_, ?_⟩
    · simp only [World.cell?, hg]
      simpa using h1
    · simp [World.frozen?, hg]
  have eg : ∀ args w, (callFunc 70 args).run Tryd.prog w = .ok (.enter 70 args) w := enters_of Tryd.func70 (by kernel_rfl) rfl
  have hcon := AnyQ.slices_SortFunc Tryd.sortSib 3 (by intro w; kernel_rfl) (by intro w; kernel_rfl) (encK (w := w) (blk := blk)) (fun _ => rfl) (fun x v hv => by simp [encK, Kv.enc] at hv; rcases hv with rfl | rfl | rfl <;> rfl) cfK (swoK w blk) 70 #[] blk 0 cap d w eg (cmpLays_sib w blk 0 d.size) hH hblk (by omega)
  rw [hs] at hcon
  refine hcon.mono ?_
  rintro e w' ⟨rfl, d', m, os, hp, hso, rfl⟩
  have hs' : d'.size = n := hp.1.trans hs
  refine ⟨rfl, d'.toList.map (·.1), ?_, ?_, ?_, gro_sort _ _ _ _ _ _ _ _⟩
  · have e1 : d'.extract 0 n = d' := by rw [← hs']; simp
    have e2 : d.extract 0 n = d := by rw [← hs]; simp
    have h3 := hp.2.2
    rw [e1, e2] at h3
    rw [← hd]
    exact h3.map _
  · rw [List.pairwise_iff_getElem]
    intro i j hi hj hij
    have hi' : i < d'.size := by simpa using hi
    have hj' : j < d'.size := by simpa using hj
    have h4 := hso i j (Nat.zero_le _) hij (by omega)
    rw [ltK_not, getElem!_pos d' j hj', getElem!_pos d' i hi'] at h4
    simpa using h4
  · have hW := holdsK_sortWorldK_c (encK (w := w) (blk := blk)) 3 w blk 0 d d' m os hH hblk hp.1
    have hh : (sortWorldK (encK (w := w) (blk := blk)) 3 w blk 0 m d' os).heap[blk]? = some (.cells (putCells id 0 (flatK encK 3 d') cur) 31 (0, 0)) := by
      unfold sortWorldK
      rw [heap_grow_old _ _ (by rw [size_putRowK]; exact hblk)]
      show ((w.heap.modify blk (onCells _))[blk]?) = _
      rw [Array.getElem?_modify, if_pos rfl, hg]
      rfl
    have hz : (putCells id 0 (flatK (encK (w := w) (blk := blk)) 3 d') cur).size = cur.size := by simp [putCells]
    have hf : (flat (d'.toList.map (·.1))).length = n * 3 := by rw [flat_len]; simp [hs']
    refine ⟨hf, .inr ⟨blk, cap, _, rfl, hb, hh, hnc, hcm, by rw [hz, hcs], ?_⟩⟩
    apply List.ext_getElem?
    intro j
    by_cases hj : j < n * 3
    · rw [List.getElem?_take, if_pos hj, flatK_flat d' (by rw [hs']; exact hj)]
      have h5 := (hW j (by rw [size_flatK, hs']; exact hj)).1
      simp only [World.cell?, hh] at h5
      simpa using h5
    · rw [List.getElem?_eq_none (by rw [List.length_take]; omega), List.getElem?_eq_none (by omega)]

end Go.Proofs.YtlmjgbonoihccaaDoor

namespace Go.Proofs.YtlmjgbonoihccaaDoor

/-- What is kept of the first j. -/
def compP (ks : List Kv) : Nat → List Kv
  | 0 => []
  | j + 1 => compP ks j ++ (match ks[j]? with
    | none => []
    | some y => match j with
      | 0 => [y]
      | i + 1 => match ks[i]? with
        | none => []
        | some p => if cmpS y.s p.s = 0 then [] else [y])
theorem compP_one {ks : List Kv} {y : Kv} (h : ks[0]? = some y) : compP ks 1 = [y] := by simp [compP, h]
theorem compP_same {ks : List Kv} {i : Nat} {p y : Kv} (hp : ks[i]? = some p) (hy : ks[i + 1]? = some y) (h : cmpS y.s p.s = 0) : compP ks (i + 2) = compP ks (i + 1) := by
  show compP ks (i + 1) ++ _ = _
  simp [hp, hy, h]
theorem compP_more {ks : List Kv} {i : Nat} {p y : Kv} (hp : ks[i]? = some p) (hy : ks[i + 1]? = some y) (h : cmpS y.s p.s ≠ 0) : compP ks (i + 2) = compP ks (i + 1) ++ [y] := by
  show compP ks (i + 1) ++ _ = _
  simp [hp, hy, h]
theorem compP_mem {ks : List Kv} {x : Kv} : ∀ {j : Nat}, x ∈ compP ks j → x ∈ ks
  | 0, h => by simp [compP] at h
  | 1, h => by
    rcases hk : ks[0]? with _ | y
    · simp [compP, hk] at h
    · rw [compP_one hk, List.mem_singleton] at h
      subst h
      exact List.mem_of_getElem? hk
  | i + 2, h => by
    rcases hy : ks[i + 1]? with _ | y
    · have e : compP ks (i + 2) = compP ks (i + 1) := by show compP ks (i + 1) ++ _ = _; simp [hy]
      rw [e] at h; exact compP_mem h
    · have hi : i < ks.length := by have := (List.getElem?_eq_some_iff.1 hy).1; omega
      have hp : ks[i]? = some ks[i] := List.getElem?_eq_getElem hi
      by_cases hc : cmpS y.s ks[i].s = 0
      · rw [compP_same hp hy hc] at h; exact compP_mem h
      · rw [compP_more hp hy hc] at h
        rcases List.mem_append.1 h with h | h
        · exact compP_mem h
        · rw [List.mem_singleton.1 h]; exact List.mem_of_getElem? hy
theorem compP_len (ks : List Kv) : ∀ j, (compP ks j).length ≤ j
  | 0 => by simp [compP]
  | 1 => by
    rcases hk : ks[0]? with _ | y
    · simp [compP, hk]
    · rw [compP_one hk]; simp
  | i + 2 => by
    have ih := compP_len ks (i + 1)
    rcases hy : ks[i + 1]? with _ | y
    · have e : compP ks (i + 2) = compP ks (i + 1) := by show compP ks (i + 1) ++ _ = _; simp [hy]
      rw [e]; omega
    · have hi : i < ks.length := by have := (List.getElem?_eq_some_iff.1 hy).1; omega
      have hp : ks[i]? = some ks[i] := List.getElem?_eq_getElem hi
      by_cases hc : cmpS y.s ks[i].s = 0
      · rw [compP_same hp hy hc]; omega
      · rw [compP_more hp hy hc]; simp; omega
/-- Of a sorted list it is the compacted one: each is kept once, in order. -/
theorem compP_inv {ks : List Kv} (hs : ks.Pairwise fun x y => cmpS y.s x.s ≠ -1) : ∀ j, j ≤ ks.length → Asc (sbs (compP ks j)) ∧ (∀ i z, i < j → ks[i]? = some z → z.s ∈ sbs (compP ks j)) ∧ ∀ x ∈ sbs (compP ks j), ∃ i z, i < j ∧ ks[i]? = some z ∧ z.s = x
  | 0, _ => ⟨List.Pairwise.nil, fun i z h => absurd h (Nat.not_lt_zero i), fun x h => by simp [compP, sbs] at h⟩
  | 1, h1 => by
    have hk : ks[0]? = some ks[0] := List.getElem?_eq_getElem h1
    rw [compP_one hk]
    refine ⟨List.pairwise_singleton _ _, fun i z hi hz => ?_, fun x hx => ⟨0, ks[0], Nat.one_pos, hk, ?_⟩⟩
    · obtain rfl : i = 0 := by omega
      rw [hk] at hz
      injection hz with hz
      subst hz
      simp [sbs]
    · simpa [sbs, eq_comm] using hx
  | j + 2, hj => by
    obtain ⟨a1, a2, a3⟩ := compP_inv hs (j + 1) (by omega)
    have hp : ks[j]? = some ks[j] := List.getElem?_eq_getElem (by omega)
    have hy : ks[j + 1]? = some ks[j + 1] := List.getElem?_eq_getElem (by omega)
    by_cases hc : cmpS ks[j + 1].s ks[j].s = 0
    · rw [compP_same hp hy hc]
      refine ⟨a1, fun i z hi hz => ?_, fun x hx => ?_⟩
      · by_cases e : i = j + 1
        · subst e
          rw [hy] at hz
          injection hz with hz
          subst hz
          rw [cmpS_good.eq _ _ hc]
          exact a2 j _ (by omega) hp
        · exact a2 i z (by omega) hz
      · obtain ⟨i, z, h1, h2, h3⟩ := a3 x hx
        exact ⟨i, z, by omega, h2, h3⟩
    · rw [compP_more hp hy hc, sbs_append]
      refine ⟨?_, fun i z hi hz => ?_, fun x hx => ?_⟩
      · refine List.pairwise_append.2 ⟨a1, List.pairwise_singleton _ _, fun x hx y hyy => ?_⟩
        obtain ⟨i, z, h1, h2, h3⟩ := a3 x hx
        have hyy' : y = ks[j + 1].s := by simpa [sbs] using hyy
        subst hyy'
        subst h3
        obtain ⟨hi, e⟩ := List.getElem?_eq_some_iff.1 h2
        have n1 : cmpS ks[j + 1].s ks[i].s ≠ -1 := List.pairwise_iff_getElem.1 hs i (j + 1) hi (by omega) h1
        rw [e] at n1
        have n3 : cmpS ks[j + 1].s ks[j].s ≠ -1 := List.pairwise_iff_getElem.1 hs j (j + 1) (by omega) (by omega) (by omega)
        rcases cmpS_good.one z.s ks[j + 1].s with h | h | h
        · exact h
        · exfalso
          have ez := cmpS_good.eq _ _ h
          by_cases ej : i = j
          · subst ej
            rw [e, ← ez] at hc
            exact hc (cmpS_good.same _)
          · have n2 : cmpS ks[j].s ks[i].s ≠ -1 := List.pairwise_iff_getElem.1 hs i j hi (by omega) (by omega)
            rw [e, ez] at n2
            have o := cmpS_good.one ks[j + 1].s ks[j].s
            have an := cmpS_good.anti ks[j + 1].s ks[j].s
            omega
        · have an := cmpS_good.anti z.s ks[j + 1].s
          omega
      · rw [List.mem_append]
        by_cases e : i = j + 1
        · subst e
          rw [hy] at hz
          injection hz with hz
          subst hz
          exact .inr (by simp [sbs])
        · exact .inl (a2 i z (by omega) hz)
      · rcases List.mem_append.1 hx with hx | hx
        · obtain ⟨i, z, h1, h2, h3⟩ := a3 x hx
          exact ⟨i, z, by omega, h2, h3⟩
        · exact ⟨j + 1, _, by omega, hy, by simpa [sbs, eq_comm] using hx⟩
theorem compP_all {ks : List Kv} (hs : ks.Pairwise fun x y => cmpS y.s x.s ≠ -1) : sbs (compP ks ks.length) = compactL (sbs ks) := by
  obtain ⟨a1, a2, a3⟩ := compP_inv hs ks.length (Nat.le_refl _)
  have hs' : (sbs ks).Pairwise fun a b => cmpS b a ≠ -1 := List.pairwise_map.2 hs
  refine asc_ext a1 (asc_compactL hs') fun x => ?_
  rw [mem_compactL]
  constructor
  · intro hx
    obtain ⟨i, z, _, h2, rfl⟩ := a3 x hx
    exact List.mem_map.2 ⟨z, List.mem_of_getElem? h2, rfl⟩
  · intro hx
    obtain ⟨z, hz, rfl⟩ := List.mem_map.1 hx
    obtain ⟨i, hi, rfl⟩ := List.getElem_of_mem hz
    exact a2 i _ hi (List.getElem?_eq_getElem hi)

end Go.Proofs.YtlmjgbonoihccaaDoor

namespace Go.Proofs.YtlmjgbonoihccaaDoor
open Go.RowKit Go.PlainAid

set_option maxRecDepth 100000 in
theorem mergeEq_any (A B : Option Addr) (n m c d : Nat) (xs ys : List Int) (g g' : Bool) (t u : ByteArray) (w : World) (h1 : Has w A n xs) (h2 : Has w B m ys) (hn : n ≤ maxLen) :
    Calls Tryd.prog 85 #[.agg #[.slice A n c, .bool g, .string t], .agg #[.slice B m d, .bool g', .string u]] w fun e w' => e = .returned (.bool (decide (cmpS ⟨xs, g, t⟩ ⟨ys, g', u⟩ = 0))) ∧ Below w.heap.size w w' := by
  have b1 := bel_alloc w (.cells #[.slice A n c, .bool g, .string t] 31)
  have b2 := bel_alloc (w.alloc (.cells #[.slice A n c, .bool g, .string t] 31)) (.cells #[.slice B m d, .bool g', .string u] 31)
  have BW := Lib.hid (b1.trans (b2.mono b1.size))
  have I1 := Lib.hid ((h1.step b1).step b2)
  have I2 := Lib.hid ((h2.step b1).step b2)
  clear b1 b2 h1 h2
  obtain ⟨z, hz⟩ : ∃ z, cmpS ⟨xs, g, t⟩ ⟨ys, g', u⟩ = z := ⟨_, rfl⟩
  have HZ := Lib.hid hz
  clear hz
  go_enter Tryd.func85, Tryd.ntmps85
  go_wp2_with fail
  refine (compareSibs_any A B n m c d xs ys g g' t u _ I1.out I2.out hn).mono ?_
  rintro e w' ⟨rfl, hb⟩
  rw [HZ.out]
  have B2 := Lib.hid (BW.out.trans (hb.mono BW.out.size))
  clear hb
  go_wp2
  go_ret
  exact ⟨ret_bool (by rw [HZ.out]; by_cases h : z = 0 <;> simp [h]), B2.out⟩

set_option maxRecDepth 100000 in
/-- Who asks whether another one knows it. -/
theorem mergeSup_any (A B : Option Addr) (n m c d p : Nat) (xs ys : List Int) (g g' : Bool) (t u : ByteArray) (w : World) (V : Var3 31 w p (.slice A n c) (.bool g) (.string t)) (h1 : Has w A n xs) (h2 : Has w B m ys) (hn : n = 3) (hm : m = 3) :
    Calls Tryd.prog 86 #[.agg #[.slice B m d, .bool g', .string u], .pointer (some ⟨p, 0, none⟩)] w fun e w' => e = .returned (.bool (sup ⟨xs, g, t⟩ ⟨ys, g', u⟩)) ∧ Below w.heap.size w w' := by
  have b1 := bel_alloc w (.cells #[.slice B m d, .bool g', .string u] 31)
  have BW := Lib.hid b1
  have I1 := Lib.hid (h1.step b1)
  have I2 := Lib.hid (h2.step b1)
  have V1 := V.step b1
  have v0 := V1.c0
  have v1 := V1.c1
  have v2 := V1.c2
  have hl := V.lt
  have hne : p ≠ w.heap.size := by omega
  have HN := Lib.hid hn
  have HM := Lib.hid hm
  clear h1 h2 V V1 b1 hn hm
  go_enter Tryd.func86, Tryd.ntmps86
  go_wp2_with fail
  refine (super_any A B n m c d xs ys g g' t u _ I1.out I2.out HN.out HM.out).mono ?_
  rintro e w' ⟨rfl, hb⟩
  have B2 := Lib.hid (BW.out.trans (hb.mono BW.out.size))
  clear hb
  go_wp2
  go_ret
  exact ⟨rfl, B2.out⟩

end Go.Proofs.YtlmjgbonoihccaaDoor

namespace Go.Proofs.YtlmjgbonoihccaaDoor
open Go.RowKit Go.PlainAid

theorem run_clear_cells {P : Program} (w : World) (t e ty : TypeId) (z : Value) (n : Nat) (zs : List Value) (ht : P.underlying t = some (.slice e)) (hv : ∀ w, (zeroValue e).run P w = .ok z w) (hz : (Builtin.zeroCells z.cells n).toList = zs) (h1 : ∀ v ∈ zs, v.oneCell' = true) (b o c : Nat) (hn : 0 < n)
    (hc : ∀ j, j < zs.length → (w.cell? ⟨b, o + j, none⟩).isSome = true) (hf : ∀ j, j < zs.length → w.frozen? ⟨b, o + j, none⟩ = false) :
    (Builtin.clear_ #[t] ty #[.slice (some ⟨b, o, none⟩) n c]).run P w = .ok (.tuple #[]) (w.setCells b o zs) := by
  have hst := run_storeCells_cells (P := P) b o zs 0 w (by simpa using hc) (by simpa using hf) h1
  simp only [Nat.add_zero] at hst
  obtain ⟨m, rfl⟩ : ∃ m, n = m + 1 := ⟨n - 1, by omega⟩
  simp [Builtin.clear_, run_underlying ht, hv, hz, hst]

theorem tape_setCells (b : Nat) : ∀ (vs : List Value) (o : Nat) (w : World), (w.setCells b o vs).tape = w.tape
  | [], _, _ => rfl
  | _ :: r, o, _ => (tape_setCells b r (o + 1) _).trans rfl
theorem len_setCells (b : Nat) : ∀ (vs : List Value) (o : Nat) (w : World), (w.setCells b o vs).heap.size = w.heap.size
  | [], _, _ => rfl
  | _ :: r, o, _ => (len_setCells b r (o + 1) _).trans (by simp [World.setCell])
theorem gro_setCells (w : World) (blk o : Nat) (vs : List Value) : Gro blk w (w.setCells blk o vs) :=
  ⟨World.os_setCells w blk o vs, tape_setCells blk vs o w, World.output_setCells w blk o vs, by rw [len_setCells]; exact Nat.le_refl _, fun _ hq hne => World.heap_setCells_other w blk o vs hq hne⟩
/-- What stands ahead of the cells that are cleared stays. -/
theorem tail_setCells {w : World} {blk n k : Nat} {rs : List Kv} {vs : List Value} (h : HasS w (some ⟨blk, 0, none⟩) n rs) (hk : k ≤ n) (hb : ∀ x ∈ rs, 0 < x.n → x.blk ≠ some blk) :
    HasS (w.setCells blk (k * 3) vs) (some ⟨blk, 0, none⟩) k (rs.take k) := by
  have hG := gro_setCells w blk (k * 3) vs
  have hp := Sibs.pre h hk
  have hl := hp.len
  refine ⟨⟨by rw [flat_len, hl], fun hn => ?_⟩, fun x hx => ?_⟩
  · obtain ⟨b, off, e, h1, h2, hc⟩ := hp.1.2 hn
    refine ⟨b, off, e, h1, Nat.lt_of_lt_of_le h2 hG.size, fun j u hu => (World.cell?_setCells_out blk vs (k * 3) w ⟨b, off + j, none⟩ (fun _ _ => ?_)).trans (hc j u hu)⟩
    simp only [Option.some.injEq, Addr.mk.injEq, and_true] at e
    obtain ⟨rfl, rfl⟩ := e
    have := (List.getElem?_eq_some_iff.1 hu).1
    rw [flat_len, hl] at this
    left
    show 0 + j < k * 3
    omega
  · have hx' := List.mem_of_mem_take hx
    exact ((h.2 x hx').keepB (fun hn q hq => hG.block q ((h.2 x hx').lt hn hq).2 (fun e => hb x hx' hn (by rw [hq, e])))).wide (Nat.le_refl _) hG.size

end Go.Proofs.YtlmjgbonoihccaaDoor

namespace Go.Proofs.YtlmjgbonoihccaaDoor
open Go.RowKit Go.PlainAid

theorem compP_take {ks : List Kv} {i : Nat} {p y : Kv} (hp : ks[i]? = some p) (hy : ks[i + 1]? = some y) (h : cmpS y.s p.s ≠ 0) (e : compP ks (i + 1) = ks.take (i + 1)) : compP ks (i + 2) = ks.take (i + 2) := by
  obtain ⟨hk, e2⟩ := List.getElem?_eq_some_iff.1 hy
  rw [compP_more hp hy h, e, List.take_succ_eq_append_getElem hk, e2]

theorem flat_set3 : ∀ {ks : List Kv} {j : Nat} (x : Kv), j < ks.length → (((flat ks).set (j * 3) (.slice x.A x.n x.c)).set (j * 3 + 1) (.bool x.s.gone)).set (j * 3 + 2) (.string x.s.text) = flat (ks.set j x)
  | [], j, x, h => by simp at h
  | a :: r, 0, x, _ => rfl
  | a :: r, j + 1, x, h => by
    have ih := flat_set3 (ks := r) (j := j) x (by simpa using h)
    have e : flat (a :: r) = .slice a.A a.n a.c :: .bool a.s.gone :: .string a.s.text :: flat r := rfl
    have e2 : flat ((a :: r).set (j + 1) x) = .slice a.A a.n a.c :: .bool a.s.gone :: .string a.s.text :: flat (r.set j x) := rfl
    rw [e, e2, ← ih, show (j + 1) * 3 = j * 3 + 3 by omega]
    rfl

theorem zero_cells : (Value.agg #[.slice none 0 0, .bool false, .string ⟨#[]⟩]).cells = #[.slice none 0 0, .bool false, .string ⟨#[]⟩] := by kernel_rfl
theorem zero_len (n : Nat) : (Builtin.zeroCells (Value.agg #[.slice none 0 0, .bool false, .string ⟨#[]⟩]).cells n).toList.length = n * 3 := by
  rw [zero_cells]; simp [Builtin.zeroCells]
theorem zero_one (n : Nat) : ∀ v ∈ (Builtin.zeroCells (Value.agg #[.slice none 0 0, .bool false, .string ⟨#[]⟩]).cells n).toList, v.oneCell' = true := by
  intro v hv
  rw [zero_cells] at hv
  simp only [Builtin.zeroCells, Array.toList_map, List.mem_map] at hv
  obtain ⟨a, _, rfl⟩ := hv
  have h3 : a % 3 = 0 ∨ a % 3 = 1 ∨ a % 3 = 2 := by omega
  show (#[Value.slice none 0 0, .bool false, .string ⟨#[]⟩][a % 3]!).oneCell' = true
  rcases h3 with h | h | h <;> rw [h] <;> rfl
theorem take_set {α : Type} {l : List α} {k : Nat} (h : k < l.length) (x : α) : (l.set k x).take (k + 1) = l.take k ++ [x] := by
  rw [List.take_succ_eq_append_getElem (by simpa using h), List.getElem_set_self, List.take_set_of_le (Nat.le_refl _)]
theorem cells3 {w : World} {base blk n c j : Nat} {ks : List Kv} (h : w.ownsRow base 31 3 (.slice (some ⟨blk, 0, none⟩) n c) n (flat ks)) (hj : j < n) :
    ∃ u0 u1 u2, w.cell? ⟨blk, j * 3, none⟩ = some u0 ∧ w.cell? ⟨blk, j * 3 + 1, none⟩ = some u1 ∧ w.cell? ⟨blk, j * 3 + 2, none⟩ = some u2 := by
  have hl := h.1
  exact ⟨_, _, _, (h.cellAt _ (by omega)).trans (List.getElem?_eq_getElem (by omega)), (h.cellAt _ (by omega)).trans (List.getElem?_eq_getElem (by omega)), (h.cellAt _ (by omega)).trans (List.getElem?_eq_getElem (by omega))⟩
theorem good_gro {w wr : World} {blk : Nat} {k : Kv} (h : Good w blk k) (hG : Gro blk w wr) : k.Ok wr 0 wr.heap.size :=
  (h.1.keepB (fun hn q hq => hG.block q (h.1.lt hn hq).2 (fun e => h.2 hn (by rw [hq, e])))).wide (Nat.le_refl _) hG.size

set_option maxRecDepth 100000 in
set_option linter.unusedSimpArgs false in
set_option maxHeartbeats 1600000 in
theorem compact_any (f : Nat) (eg : ∀ args w, (callFunc f args).run Tryd.prog w = .ok (.enter f args) w) (blk n c base : Nat) (ks : List Kv) (w : World) (ho : w.ownsRow base 31 3 (.slice (some ⟨blk, 0, none⟩) n c) n (flat ks)) (hk : ∀ k ∈ ks, Good w blk k) (hn : n ≤ 100000)
    (hf : ∀ (W : World) (x y : Kv), x ∈ ks → y ∈ ks → Gro blk w W → Calls Tryd.prog f #[.agg #[.slice x.A x.n x.c, .bool x.s.gone, .string x.s.text], .agg #[.slice y.A y.n y.c, .bool y.s.gone, .string y.s.text]] W fun e w' => e = .returned (.bool (decide (cmpS x.s y.s = 0))) ∧ Below W.heap.size W w') :
    Calls Tryd.prog 84 #[.slice (some ⟨blk, 0, none⟩) n c, .func (.func f) #[] #[]] w fun e w' => ∃ m, e = .returned (.slice (some ⟨blk, 0, none⟩) m c) ∧ m = (compP ks n).length ∧ Gro blk w w' ∧ HasS w' (some ⟨blk, 0, none⟩) m (compP ks n) := by
  have HS : Hid (HasS w (some ⟨blk, 0, none⟩) n ks) := Lib.hid (hasS_row ho fun k h => (hk k h).1)
  have HL := Lib.hid HS.out.len
  have HF := Lib.hid hf
  have HO := Lib.hid ho
  have HK := Lib.hid hk
  have hbl := (ho.lt blk rfl).2
  clear hf ho hk
  have small : n ≤ 1 → compP ks n = ks.take n := fun h => by
    rcases Nat.eq_zero_or_pos n with e | e
    · subst e; rfl
    · obtain rfl : n = 1 := by omega
      rcases ks with _ | ⟨a, r⟩
      · have := HL.out; simp at this
      · rfl
  have first : 2 ≤ n → compP ks 1 = ks.take 1 := fun h => by
    rcases ks with _ | ⟨a, r⟩
    · have := HL.out; simp at this; omega
    · rfl
  have SM := Lib.hid small
  have FI := Lib.hid first
  clear small first
  have hnc := own_cap HO.out
  by_cases h2 : n < 2
  · go_enter Tryd.func84, Tryd.ntmps84
    go_wp2
    go_ret
    have e : compP ks n = ks := by rw [SM.out (by omega), List.take_of_length_le (by rw [HL.out]; omega)]
    exact ⟨n, rfl, by rw [e, HL.out], Gro.refl _ _, by rw [e]; exact HS.out⟩
  go_enter Tryd.func84, Tryd.ntmps84
  go_wp2
  go_loopw [5] (fun i wr => ∃ k : Nat, 1 ≤ k ∧ k ≤ n ∧ i = .int .i64 k ∧ Hid (Below w.heap.size w wr) ∧ Hid (compP ks k = ks.take k)) (fun i _ => n - (intOf i).toNat)
  case atStart => exact ⟨1, Nat.le_refl _, by omega, rfl, Below.refl _ _, FI.out (by omega)⟩
  case round =>
    obtain ⟨k, h1, hk, rfl, HB, HC⟩ := hrel
    obtain ⟨p, rfl⟩ : ∃ p, k = p + 1 := ⟨k - 1, by omega⟩
    by_cases hlt : p + 1 < n
    · obtain ⟨b, off, A1, n1, d1, vv, g, t, e, _, c0, c1, c2, _, _, _, hx⟩ := HS.out.at_ hlt
      simp only [Option.some.injEq, Addr.mk.injEq, and_true] at e
      obtain ⟨rfl, rfl⟩ := e
      obtain ⟨b, off, A2, n2, d2, vv2, g2, t2, e, _, e0, e1, e2, _, _, _, hy⟩ := HS.out.at_ (j := p) (by omega)
      simp only [Option.some.injEq, Addr.mk.injEq, and_true] at e
      obtain ⟨rfl, rfl⟩ := e
      rw [Nat.zero_add] at c0 c1 c2 e0 e1 e2
      have Q0 := Lib.hid (cell_upC HB.out c0)
      have Q1 := Lib.hid (cell_upC HB.out c1)
      have Q2 := Lib.hid (cell_upC HB.out c2)
      have P0 := Lib.hid (cell_upC HB.out e0)
      have P1 := Lib.hid (cell_upC HB.out e1)
      have P2 := Lib.hid (cell_upC HB.out e2)
      have hcall := Lib.hid (fun W (hb : Below w.heap.size w W) => HF.out W _ _ (List.mem_of_getElem? hx.out) (List.mem_of_getElem? hy.out) ⟨hb.os, hb.tape, hb.output, hb.size, fun q hq _ => hb.block q hq⟩)
      have i1 : (p : Int) < (n : Int) := by omega
      have i2 : (p : Int) + 1 < (n : Int) := by omega
      have i3 : (0 : Int) ≤ (p : Int) + 1 := by omega
      have i4 : (0 : Int) ≤ (p : Int) := by omega
      have i6 : IntKind.i64.wrap (p : Int) = (p : Int) := IntWalk.i64_in _ (by omega)
      clear c0 c1 c2 e0 e1 e2
      obtain ⟨z, hz⟩ : ∃ z, decide (cmpS ⟨vv, g, t⟩ ⟨vv2, g2, t2⟩ = 0) = z := ⟨_, rfl⟩
      have HZ := Lib.hid hz
      clear hz
      go_wp2
      go_region_held3 (fun w' => w'.cell? ⟨blk, (p + 1) * 3, none⟩ = some (.slice A1 n1 d1) ∧ w'.cell? ⟨blk, (p + 1) * 3 + 1, none⟩ = some (.bool g) ∧ w'.cell? ⟨blk, (p + 1) * 3 + 2, none⟩ = some (.string t) ∧ w'.cell? ⟨blk, p * 3, none⟩ = some (.slice A2 n2 d2) ∧ w'.cell? ⟨blk, p * 3 + 1, none⟩ = some (.bool g2) ∧ w'.cell? ⟨blk, p * 3 + 2, none⟩ = some (.string t2) ∧ Below w.heap.size w w')
        (first
          | exact ⟨Q0.out, Q1.out, Q2.out, P0.out, P1.out, P2.out, HB.out.drew⟩
          | (go_split_ands
             exact ⟨cell_upC hb (by assumption), cell_upC hb (by assumption), cell_upC hb (by assumption), cell_upC hb (by assumption), cell_upC hb (by assumption), cell_upC hb (by assumption), Below.trans (by assumption) (hb.mono (Below.size (by assumption)))⟩))
        (first
          | (go_at_fn f; go_split_ands; refine (hcall.out _ (by assumption)).mono ?_; rintro e w6 ⟨rfl, hb⟩; rw [HZ.out]))
      all_goals go_split_ands
      all_goals have B6 := Lib.hid (show Below w.heap.size w w6 by assumption)
      all_goals cases z
      all_goals go_wp2
      all_goals first
        | (go_roundw
           case rel => exact ⟨p + 1 + 1, by omega, by omega, by go_num, B6, compP_take hy.out hx.out (of_decide_eq_false HZ.out) HC.out⟩
           case measure => simp [intOf]; omega)
        | (have W6 := Lib.hid (row_keep HO.out (fun q hq => B6.out.block q (HO.out.lt q hq).2))
           have N2 : n - (p + 1) ≤ n := Nat.sub_le _ _
           go_loopw [5, 7] (fun kv jv wr => ∃ (k j : Nat) (rs : List Kv), p + 1 ≤ k ∧ 1 ≤ j ∧ j ≤ n - (p + 1) ∧ k ≤ p + j ∧ kv = .int .i64 k ∧ jv = .int .i64 j ∧ Hid (rs.take k = compP ks (p + 1 + j)) ∧ Hid (∀ i, p + j ≤ i → rs[i]? = ks[i]?) ∧ Hid (wr.ownsRow base 31 3 (.slice (some ⟨blk, 0, none⟩) n c) n (flat rs)) ∧ Hid (Gro blk w wr) ∧ Hid (∀ x ∈ rs, x ∈ ks)) (fun _ jv _ => n - (intOf jv).toNat)
           case atStart => exact ⟨p + 1, 1, ks, Nat.le_refl _, Nat.le_refl _, by omega, Nat.le_refl _, rfl, rfl, (HC.out.symm.trans (compP_same hy.out hx.out (of_decide_eq_true HZ.out)).symm), fun i _ => rfl, W6.out, ⟨B6.out.os, B6.out.tape, B6.out.output, B6.out.size, fun q hq _ => B6.out.block q hq⟩, fun x hx => hx⟩
           case round =>
             obtain ⟨k, j, rs, k1, j1, jn, kj, rfl, rfl, HT, HD, HR, HG, HM⟩ := hrel
             obtain ⟨i, rfl⟩ : ∃ i, j = i + 1 := ⟨j - 1, by omega⟩
             have HRS := Lib.hid (hasS_row HR.out (fun x hx => good_gro (HK.out x (HM.out x hx)) HG.out))
             by_cases hlj : i + 1 < n - (p + 1)
             · obtain ⟨b, off, A1, n1, d1, vv, g, t, e, _, c0, c1, c2, _, _, _, hxr⟩ := HRS.out.at_ (j := p + 1 + (i + 1)) (by omega)
               simp only [Option.some.injEq, Addr.mk.injEq, and_true] at e
               obtain ⟨rfl, rfl⟩ := e
               obtain ⟨b, off, A2, n2, d2, vv2, g2, t2, e, _, e0, e1, e2, _, _, _, hyr⟩ := HRS.out.at_ (j := p + 1 + i) (by omega)
               simp only [Option.some.injEq, Addr.mk.injEq, and_true] at e
               obtain ⟨rfl, rfl⟩ := e
               rw [Nat.zero_add, Nat.add_mul] at c0 c1 c2 e0 e1 e2
               have hx2 : Hid (ks[p + 1 + (i + 1)]? = some ⟨A1, n1, d1, ⟨vv, g, t⟩⟩) := Lib.hid ((HD.out _ (by omega)).symm.trans hxr.out)
               have hy2 : Hid (ks[p + 1 + i]? = some ⟨A2, n2, d2, ⟨vv2, g2, t2⟩⟩) := Lib.hid ((HD.out _ (by omega)).symm.trans hyr.out)
               have Q0 := Lib.hid c0
               have Q1 := Lib.hid c1
               have Q2 := Lib.hid c2
               have P0 := Lib.hid e0
               have P1 := Lib.hid e1
               have P2 := Lib.hid e2
               have hcall := Lib.hid (fun W (hb : Below wr.heap.size wr W) => HF.out W _ _ (List.mem_of_getElem? hx2.out) (List.mem_of_getElem? hy2.out) (HG.out.trans (.of_below hb)))
               have i1 : (i : Int) + 1 < ((n - (p + 1) : Nat) : Int) := by omega
               have i2 : (i : Int) < ((n - (p + 1) : Nat) : Int) := by omega
               have i3 : (0 : Int) ≤ (i : Int) + 1 := by omega
               have i4 : (0 : Int) ≤ (i : Int) := by omega
               have i6 : IntKind.i64.wrap (i : Int) = (i : Int) := IntWalk.i64_in _ (by omega)
               clear c0 c1 c2 e0 e1 e2
               obtain ⟨z, hz⟩ : ∃ z, decide (cmpS ⟨vv, g, t⟩ ⟨vv2, g2, t2⟩ = 0) = z := ⟨_, rfl⟩
               have HZ := Lib.hid hz
               clear hz
               go_wp2
               go_region_held3 (fun w' => w'.cell? ⟨blk, (p + 1) * 3 + (i + 1) * 3, none⟩ = some (.slice A1 n1 d1) ∧ w'.cell? ⟨blk, (p + 1) * 3 + (i + 1) * 3 + 1, none⟩ = some (.bool g) ∧ w'.cell? ⟨blk, (p + 1) * 3 + (i + 1) * 3 + 2, none⟩ = some (.string t) ∧ w'.cell? ⟨blk, (p + 1) * 3 + i * 3, none⟩ = some (.slice A2 n2 d2) ∧ w'.cell? ⟨blk, (p + 1) * 3 + i * 3 + 1, none⟩ = some (.bool g2) ∧ w'.cell? ⟨blk, (p + 1) * 3 + i * 3 + 2, none⟩ = some (.string t2) ∧ Below wr.heap.size wr w')
                 (first
                   | exact ⟨Q0.out, Q1.out, Q2.out, P0.out, P1.out, P2.out, (Below.refl _ _).drew⟩
                   | (go_split_ands
                      exact ⟨cell_upC hb (by assumption), cell_upC hb (by assumption), cell_upC hb (by assumption), cell_upC hb (by assumption), cell_upC hb (by assumption), cell_upC hb (by assumption), Below.trans (by assumption) (hb.mono (Below.size (by assumption)))⟩))
                 (first
                   | (go_at_fn f; go_split_ands; refine (hcall.out _ (by assumption)).mono ?_; rintro e w6 ⟨rfl, hb⟩; rw [HZ.out]))
               all_goals go_split_ands
               all_goals have B7 := Lib.hid (show Below wr.heap.size wr w6 by assumption)
               all_goals have R7 := Lib.hid (row_keep HR.out (fun q hq => B7.out.block q (HR.out.lt q hq).2))
               all_goals have G7 := Lib.hid (HG.out.trans (.of_below B7.out))
               all_goals cases z
               all_goals first
                 | (have i7 : (k : Int) < (n : Int) := by omega
                    have i8 : (0 : Int) ≤ (k : Int) := by omega
                    obtain ⟨o0, o1, o2, k0, k1', k2⟩ := cells3 (j := k) R7.out (by omega)
                    have f0 := R7.out.frozenAt (k * 3)
                    have f1 := R7.out.frozenAt (k * 3 + 1)
                    have f2 := R7.out.frozenAt (k * 3 + 2)
                    go_wp2
                    go_roundw
                    case rel =>
                      have hkl : k < rs.length := by rw [HRS.out.len]; omega
                      refine ⟨k + 1, i + 1 + 1, rs.set k ⟨A1, n1, d1, ⟨vv, g, t⟩⟩, by omega, by omega, by omega, by omega, by go_num, by go_num, ?_, fun q hq => ?_, ?_, ?_, fun x hx => ?_⟩
                      · have e1 := compP_more hy2.out hx2.out (of_decide_eq_false HZ.out)
                        show (rs.set k _).take (k + 1) = compP ks (p + 1 + i + 2)
                        rw [e1]
                        have e2 : rs.take k = compP ks (p + 1 + i + 1) := HT.out
                        rw [← e2]
                        exact take_set hkl _
                      · rw [List.getElem?_set_ne (by omega)]
                        exact HD.out q (by omega)
                      · rw [← flat_set3 _ hkl]
                        exact (((R7.out.stored _ _).1.stored _ _).1.stored _ _).1
                      · exact G7.out.trans (gro_setCells _ blk (k * 3) [_, _, _])
                      · rcases mem_set_of hx with rfl | ⟨q, _, hq⟩
                        · exact List.mem_of_getElem? hx2.out
                        · exact HM.out x (List.mem_of_getElem? hq)
                    case measure => simp [intOf]; omega)
                 | (go_wp2
                    go_roundw
                    case rel =>
                      refine ⟨k, i + 1 + 1, rs, k1, by omega, by omega, by omega, rfl, by go_num, ?_, fun q hq => HD.out q (by omega), R7.out, G7.out, HM.out⟩
                      show rs.take k = compP ks (p + 1 + i + 2)
                      rw [compP_same hy2.out hx2.out (of_decide_eq_true HZ.out)]
                      exact HT.out
                    case measure => simp [intOf]; omega)
             · have hkn : k < n := by omega
               obtain ⟨zs, hz⟩ : ∃ zs, (Builtin.zeroCells (Value.agg #[.slice none 0 0, .bool false, .string ⟨#[]⟩]).cells (n - k)).toList = zs := ⟨_, rfl⟩
               have hzl : zs.length = (n - k) * 3 := by rw [← hz]; exact zero_len _
               have hcl : ∀ ty, (Builtin.clear_ #[23] ty #[.slice (some ⟨blk, k * 3, none⟩) (n - k) (c - k)]).run Tryd.prog wr = .ok (.tuple #[]) (wr.setCells blk (k * 3) zs) := fun ty =>
                 run_clear_cells wr _ 31 ty (.agg #[.slice none 0 0, .bool false, .string ⟨#[]⟩]) (n - k) zs Tryd.underlying23 (by intro w; kernel_rfl) hz (by rw [← hz]; exact zero_one _) blk (k * 3) _ (by omega)
                   (fun j hj => by
                     rw [hzl] at hj
                     rw [HR.out.cellAt _ (by omega), List.getElem?_eq_getElem (by rw [flat_len, HRS.out.len]; omega)]
                     rfl)
                   (fun j _ => HR.out.frozenAt _)
               have TS := Lib.hid (tail_setCells (vs := zs) HRS.out (k := k) (by omega) (fun x hx => (HK.out x (HM.out x hx)).2))
               have TG := Lib.hid (HG.out.trans (gro_setCells wr blk (k * 3) zs))
               have TE : Hid (rs.take k = compP ks n) := Lib.hid (by rw [HT.out, show p + 1 + (i + 1) = n by omega])
               clear hz hzl
               go_wp2
               go_ret
               rw [TE.out] at TS
               exact ⟨k, rfl, TS.out.len.symm, TG.out, TS.out⟩)
    · obtain rfl : p + 1 = n := by omega
      go_wp2
      go_ret
      refine ⟨p + 1, rfl, ?_, ⟨HB.out.os, HB.out.tape, HB.out.output, HB.out.size, fun q hq _ => HB.out.block q hq⟩, ?_⟩
      · rw [HC.out, List.length_take, HL.out]; omega
      · rw [HC.out, List.take_of_length_le (by rw [HL.out]; omega)]
        exact HS.out.step HB.out

end Go.Proofs.YtlmjgbonoihccaaDoor

namespace Go.Proofs.YtlmjgbonoihccaaDoor
open Go.RowKit Go.PlainAid

/-- A row of versions that the call has made, with the counts of each in a block of its own. -/
structure Rw (w W : World) (g c n : Nat) (ks : List Kv) : Prop where
  bel : Below w.heap.size w W
  row : W.ownsRow w.heap.size 31 3 (.slice (some ⟨g, 0, none⟩) n c) n (flat ks)
  own : ∀ k ∈ ks, k.Own W w.heap.size W.heap.size
  off : ∀ k ∈ ks, k.blk ≠ some g
  sep : ks.Pairwise Apart
theorem Apart.swap {a b : Kv} (h : Apart a b) : Apart b a := fun q hq he => h q he hq
section
variable {w W W' : World} {g c n : Nat} {ks ls : List Kv}
theorem Rw.len (h : Rw w W g c n ks) : ks.length = n := by have := h.row.1; rw [flat_len] at this; omega
theorem Rw.ge (h : Rw w W g c n ks) : w.heap.size ≤ g := (h.row.lt g rfl).1
theorem Rw.good (h : Rw w W g c n ks) : ∀ k ∈ ks, Good W g k := fun k hk => ⟨(h.own k hk).ok.wide (Nat.zero_le _) (Nat.le_refl _), fun _ => h.off k hk⟩
theorem Rw.ownGro (h : Rw w W g c n ks) (hG : Gro g W W') : ∀ k ∈ ks, k.Own W' w.heap.size W'.heap.size := fun k hk =>
  ((h.own k hk).keepB (fun q hq => hG.block q ((h.own k hk).lt hq).2 (fun e => h.off k hk (by rw [hq, e])))).wide (Nat.le_refl _) hG.size
theorem Rw.belGro (h : Rw w W g c n ks) (hG : Gro g W W') : Below w.heap.size w W' := h.bel.trans (hG.below h.ge h.bel.size)
/-- The row turns into another order of the same. -/
theorem Rw.perm (h : Rw w W g c n ks) (hG : Gro g W W') (hp : ls.Perm ks) (ho : W'.ownsRow w.heap.size 31 3 (.slice (some ⟨g, 0, none⟩) n c) n (flat ls)) : Rw w W' g c n ls :=
  ⟨h.belGro hG, ho, fun k hk => h.ownGro hG k (hp.mem_iff.1 hk), fun k hk => h.off k (hp.mem_iff.1 hk), (hp.pairwise_iff Apart.swap).2 h.sep⟩
end
/-- Two copies, the second one appended to the first. -/
theorem rw_join {w w1 w2 w3 : World} {g1 g2 c1 c2 g c n : Nat} {l1 l2 : List Kv} {n1 n2 : Nat} (h1 : Rw w w1 g1 c1 n1 l1) (h2 : Rw w1 w2 g2 c2 n2 l2)
    (ho : w3.ownsRow w.heap.size 31 3 (.slice (some ⟨g, 0, none⟩) n c) n (flat (l1 ++ l2))) (hg : w2.grownBy w3 (some g1)) (hat : g1 = g ∨ g = w2.heap.size) : Rw w w3 g c n (l1 ++ l2) := by
  have a1 := (h1.row.lt g1 rfl)
  have s1 := h1.bel.size
  have s2 := h2.bel.size
  have hb : Below w.heap.size w1 w3 := (h2.bel.mono s1).trans ((Below.refl w.heap.size w2).grown hg (by omega) (fun q hq => by injection hq with hq; omega))
  have keep : ∀ q, q < w2.heap.size → q ≠ g1 → w3.heap[q]? = w2.heap[q]? := fun q hq hne => hg.block q hq (fun e => hne (Option.some.inj e))
  have o1 : ∀ k ∈ l1, k.Own w3 w.heap.size w1.heap.size := fun k hk => (h1.own k hk).keepB (fun q hq => by
    have hl := ((h1.own k hk).lt hq).2
    exact (keep q (by omega) (fun e => h1.off k hk (by rw [hq, e]))).trans (h2.bel.block q hl))
  have o2 : ∀ k ∈ l2, k.Own w3 w1.heap.size w2.heap.size := fun k hk => (h2.own k hk).keepB (fun q hq => by
    have hl := (h2.own k hk).lt hq
    exact keep q hl.2 (by omega))
  refine ⟨h1.bel.trans hb, ho, fun k hk => ?_, fun k hk he => ?_, List.pairwise_append.2 ⟨h1.sep, h2.sep, fun x hx y hy q hq he => ?_⟩⟩
  · rcases List.mem_append.1 hk with hk | hk
    · exact (o1 k hk).wide (Nat.le_refl _) (by have := hg.size; omega)
    · exact (o2 k hk).wide s1 hg.size
  · rcases List.mem_append.1 hk with hk | hk
    · rcases hat with e | e
      · exact h1.off k hk (by rw [he, e])
      · have := ((h1.own k hk).lt he).2; omega
    · have := (h2.own k hk).lt he
      rcases hat with e | e <;> omega
  · have b1 := ((h1.own x hx).lt hq).2
    have b2 := ((h2.own y hy).lt he).1
    omega

theorem compP_sub (ks : List Kv) : ∀ j, (compP ks j).Sublist (ks.take j)
  | 0 => by simp [compP]
  | 1 => by
    rcases hk : ks[0]? with _ | y
    · simp [compP, hk]
    · rw [compP_one hk]
      obtain ⟨h0, e⟩ := List.getElem?_eq_some_iff.1 hk
      rw [List.take_succ_eq_append_getElem h0, e]
      simp
  | i + 2 => by
    have ih := compP_sub ks (i + 1)
    rcases hy : ks[i + 1]? with _ | y
    · have e : compP ks (i + 2) = compP ks (i + 1) := by show compP ks (i + 1) ++ _ = _; simp [hy]
      rw [e]
      have hl := List.getElem?_eq_none_iff.1 hy
      rw [List.take_of_length_le (show ks.length ≤ i + 2 by omega)]
      rw [List.take_of_length_le hl] at ih
      exact ih
    · obtain ⟨h1, e⟩ := List.getElem?_eq_some_iff.1 hy
      have hp : ks[i]? = some (ks[i]'(by omega)) := List.getElem?_eq_getElem (by omega)
      rw [List.take_succ_eq_append_getElem h1, e]
      by_cases hc : cmpS y.s (ks[i]'(by omega)).s = 0
      · rw [compP_same hp hy hc]
        exact ih.trans (List.sublist_append_left _ _)
      · rw [compP_more hp hy hc]
        exact ih.append (List.Sublist.refl _)

/-- What mergeSibs keeps of the first k. -/
def kpTo (qs : List Kv) (k : Nat) : List Kv := (qs.take k).filter fun x => !(sbs qs).any (sup x.s)
theorem kpTo_succ {qs : List Kv} {k : Nat} {x : Kv} (hx : qs[k]? = some x) : kpTo qs (k + 1) = kpTo qs k ++ (if (sbs qs).any (sup x.s) then [] else [x]) := by
  obtain ⟨hk, rfl⟩ := List.getElem?_eq_some_iff.1 hx
  unfold kpTo
  rw [List.take_succ_eq_append_getElem hk, List.filter_append]
  congr 1
  cases h : (sbs qs).any (sup qs[k].s) <;> simp [h]
theorem kpTo_mem {qs : List Kv} {k : Nat} {x : Kv} (h : x ∈ kpTo qs k) : x ∈ qs := List.mem_of_mem_take (List.mem_filter.1 h).1
theorem kpTo_sub (qs : List Kv) (k : Nat) : (kpTo qs k).Sublist qs := List.filter_sublist.trans (List.take_sublist _ _)
theorem kpTo_len (qs : List Kv) (k : Nat) : (kpTo qs k).length ≤ k := by
  have h1 : (kpTo qs k).length ≤ (qs.take k).length := List.length_filter_le _ _
  have h2 : (qs.take k).length ≤ k := by simp; omega
  omega
theorem kpTo_all {qs : List Kv} {k : Nat} (h : qs.length = k) : sbs (kpTo qs k) = (sbs qs).filter fun x => !(sbs qs).any (sup x) := by
  unfold kpTo sbs
  rw [List.take_of_length_le (by omega), List.filter_map]
  rfl
theorem vv_three {l : List Int} (h : vvOk l = true) : l.length = 3 := vvOk_len h
theorem hasS_three {w : World} {A : Option Addr} {n : Nat} {ks : List Kv} (h : HasS w A n ks) (hv : ∀ x ∈ sbs ks, vvOk x.vv = true) : ∀ k ∈ ks, k.n = 3 := fun k hk => by
  rw [← (h.2 k hk).1.len]
  exact vvOk_len (hv _ (List.mem_map.2 ⟨k, hk, rfl⟩))

set_option maxRecDepth 100000 in
set_option linter.unusedSimpArgs false in
set_option maxHeartbeats 3200000 in
theorem mergeSibs_any (A B : Option Addr) (n m c d : Nat) (ka kb : List Kv) (w : World) (h1 : HasS w A n ka) (h2 : HasS w B m kb) (hn : n ≤ 1000) (hm : m ≤ 1000) (hm0 : 0 < m) (ha : Asc (sbs ka)) (va : ∀ x ∈ sbs ka, vvOk x.vv = true) (vb : ∀ x ∈ sbs kb, vvOk x.vv = true) :
    Calls Tryd.prog 57 #[.slice A n c, .slice B m d] w fun e w' => ∃ g' c' lr, e = .returned (.slice (some ⟨g', 0, none⟩) lr.length c') ∧ Below w.heap.size w w' ∧ OwnSibs w' w.heap.size w'.heap.size (some ⟨g', 0, none⟩) lr.length c' lr ∧ sbs lr = mergeL (sbs ka) (sbs kb) := by
  obtain ⟨i0, hi0, hz0, hz1, hz2⟩ := info_parts infoSib
  have G2 := Lib.hid hz2
  have H1 := Lib.hid h1
  have H2 := Lib.hid h2
  have T1 := Lib.hid (hasS_three h1 va)
  have T2 := Lib.hid (hasS_three h2 vb)
  have HA := Lib.hid ha
  have VA := Lib.hid va
  have VB := Lib.hid vb
  clear h1 h2 ha va vb hz2
  go_enter Tryd.func57, Tryd.ntmps57
  go_wp2_with fail
  refine (copySibs_any A n c ka _ H1.out hn T1.out).mono ?_
  rintro e w1 ⟨g1, c1, l1, rfl, hb, ho, hw, hof, hs, hp⟩
  have n1 : l1.length = n := by have := congrArg List.length hs; rw [sbs_len, sbs_len, H1.out.len] at this; exact this
  rw [n1] at ho ⊢
  have R1 : Hid (Rw w w1 g1 c1 n l1) := Lib.hid ⟨hb, ho, hw, hof, hp⟩
  have S1 := Lib.hid hs
  have I2 := Lib.hid (H2.out.step hb)
  clear hb ho hw hof hs hp n1
  go_wp2_with fail
  refine (copySibs_any B m d kb _ I2.out hm T2.out).mono ?_
  rintro e w2 ⟨g2, c2, l2, rfl, hb, ho, hw, hof, hs, hp⟩
  have n2 : l2.length = m := by have := congrArg List.length hs; rw [sbs_len, sbs_len, H2.out.len] at this; exact this
  rw [n2] at ho ⊢
  have R2 : Hid (Rw w1 w2 g2 c2 m l2) := Lib.hid ⟨hb, ho, hw, hof, hp⟩
  have S2 := Lib.hid hs
  have F2 : Hid ((flat l2).length = m * 3) := Lib.hid (by rw [flat_len, n2])
  have O1 : Hid (w2.ownsRow w.heap.size 31 3 (.slice (some ⟨g1, 0, none⟩) n c1) n (flat l1)) := Lib.hid (row_keep R1.out.row (fun q hq => hb.block q (R1.out.row.lt q hq).2))
  have NW : Hid (∀ j u, (flat l2)[j]? = some u → w2.cell? ((⟨g2, 0, none⟩ : Addr).add j) = some u) := Lib.hid (ho.cells rfl)
  have s1 := R1.out.bel.size
  have s2 := hb.size
  clear hb ho hw hof hs hp n2
  go_wp2_with (at_builtin; go_must (refine wpList_append_lies _ rfl (.tmp 10) (.tmp 12) 23 rfl w.heap.size 31 i0 _ 3 48 Tryd.underlying23 hi0 hz0 hz1 G2.out rfl (by decide) _ n (flat l1) rfl O1.out ⟨g2, 0, none⟩ m c2 (flat l2) rfl F2.out NW.out (one_flat l2) (by omega) (by unfold maxLen; omega) (by omega) (by omega) w2.heap.size rfl ?_; intro g c3 w3 ho hg hat _))
  have R3 : Hid (Rw w w3 g c3 (n + m) (l1 ++ l2)) := Lib.hid (rw_join R1.out R2.out (by rw [flat_append]; exact ho) hg (hat.imp (fun e => by injection e) id))
  obtain ⟨N, hN⟩ : ∃ N, n + m = N := ⟨_, rfl⟩
  obtain ⟨ks, hks⟩ : ∃ ks, l1 ++ l2 = ks := ⟨_, rfl⟩
  have SK : Hid (sbs ks = sbs ka ++ sbs kb) := Lib.hid (by rw [← hks, sbs_append, S1.out, S2.out])
  rw [hN] at R3 ⊢
  rw [hks] at R3
  have hN2 : N ≤ 2000 := by omega
  clear ho hg hat O1 NW R1 R2 hN hks S1 S2 T1 T2 H1 H2 I2 F2 s1 s2
  go_wp2_with fail
  refine (sortSibs_any g N c3 w.heap.size ks w3 R3.out.row R3.out.good (by omega)).mono ?_
  rintro e w4 ⟨rfl, ks', hpm, hso, ho, hG⟩
  have R4 := Lib.hid (R3.out.perm hG hpm ho)
  have PM := Lib.hid hpm
  have SO := Lib.hid hso
  clear hpm hso ho hG R3
  have eg : ∀ args w, (callFunc 85 args).run Tryd.prog w = .ok (.enter 85 args) w := enters_of Tryd.func85 (by kernel_rfl) rfl
  have hcm := compact_any 85 eg g N c3 w.heap.size ks' w4 R4.out.row R4.out.good (by omega) (fun W x y hx hy hG =>
    mergeEq_any x.A y.A x.n y.n x.c y.c x.s.vv y.s.vv x.s.gone y.s.gone x.s.text y.s.text W (good_gro (R4.out.good x hx) hG).1 (good_gro (R4.out.good y hy) hG).1 (good_gro (R4.out.good x hx) hG).2.1)
  have HCM := Lib.hid hcm
  clear hcm eg
  go_wp2_with fail
  refine HCM.out.mono ?_
  clear HCM
  rintro e w5 ⟨M, rfl, hM, hG, hH⟩
  obtain ⟨qs, hqs⟩ : ∃ qs, compP ks' N = qs := ⟨_, rfl⟩
  have hkl := R4.out.len
  have QM : Hid (∀ x ∈ qs, x ∈ ks') := Lib.hid (fun x hx => by rw [← hqs] at hx; exact compP_mem hx)
  have QS : Hid (qs.Pairwise Apart) := Lib.hid (R4.out.sep.sublist (by rw [← hqs]; exact (compP_sub ks' N).trans (List.take_sublist _ _)))
  have QC : Hid (sbs qs = compactL (sbs ks')) := Lib.hid (by rw [← hqs, ← hkl]; exact compP_all SO.out)
  rw [hqs] at hM hH
  have B5 := Lib.hid (R4.out.belGro hG)
  have OW5 : Hid (∀ x ∈ qs, x.Own w5 w.heap.size w5.heap.size) := Lib.hid (fun x hx => R4.out.ownGro hG x (QM.out x hx))
  have H5 := Lib.hid hH
  have hM2 : M ≤ 2000 := by
    have := compP_len ks' N
    rw [hqs] at this
    omega
  have HVQ : Hid (∀ x ∈ sbs qs, vvOk x.vv = true) := Lib.hid (fun x hx => by
    obtain ⟨k, hk, rfl⟩ := List.mem_map.1 hx
    have h1 : k.s ∈ sbs ks := List.mem_map.2 ⟨k, PM.out.mem_iff.1 (QM.out k hk), rfl⟩
    have h2 : k.s ∈ sbs ka ++ sbs kb := by rw [← SK.out]; exact h1
    exact (List.mem_append.1 h2).elim (VA.out _) (VB.out _))
  have T5 := Lib.hid (hasS_three hH HVQ.out)
  have RES : Hid (sbs (kpTo qs M) = mergeL (sbs ka) (sbs kb)) := Lib.hid (by
    rw [kpTo_all hM.symm, QC.out]
    refine merge_of_sorted HA.out (List.pairwise_map.2 SO.out) (fun x => ?_) (fun x h => h.elim (VA.out x) (VB.out x))
    rw [← List.mem_append, ← SK.out]
    exact (PM.out.map (·.s)).mem_iff)
  have HM := Lib.hid hM
  have s5 := B5.out.size
  clear hM hH hG hqs hkl R4 PM SO QC SK HVQ HA VA VB
  go_wp2
  go_loopw [6, 21] (fun v i wr => ∃ (k : Nat) (gg cc : Nat), k ≤ M ∧ i = .int .i64 k ∧ v = .slice (some ⟨gg, 0, none⟩) (kpTo qs k).length cc ∧ Hid (Below w5.heap.size w5 wr) ∧ Hid (wr.ownsRow w5.heap.size 31 3 v (kpTo qs k).length (flat (kpTo qs k)))) (fun _ i _ => M - (intOf i).toNat)
  case atStart => exact ⟨0, _, 0, Nat.zero_le _, rfl, rfl, bel_alloc _ _, World.ownsRow_lit w5 #[] 0 (Nat.le_refl _) (by unfold maxLen; omega) rfl⟩
  case round =>
    obtain ⟨k, gg, cc, hk, rfl, rfl, HB, HO⟩ := hrel
    have hll := kpTo_len qs k
    have hsz := HB.out.size
    by_cases hlt : k < M
    · obtain ⟨b, off, A', n', c', vv, gn, t, e, hbl, c0, c1', c2', I, hn', ht', hx⟩ := H5.out.at_ hlt
      simp only [Option.some.injEq, Addr.mk.injEq, and_true] at e
      obtain ⟨rfl, rfl⟩ := e
      rw [Nat.zero_add] at c0 c1' c2'
      have q0 := cell_upC HB.out c0
      have q1 := cell_upC HB.out c1'
      have q2 := cell_upC HB.out c2'
      have N3 : Hid (n' = 3) := Lib.hid (T5.out _ (List.mem_of_getElem? hx.out))
      have W4 := bel_alloc wr (.cells #[.slice A' n' c', .bool gn, .string t] 31)
      have V4 := Lib.hid (Var3.new 31 wr (.slice A' n' c') (.bool gn) (.string t))
      have I4 := Lib.hid ((I.step HB.out).step W4)
      have L4 := Lib.hid ((H5.out.step HB.out).step W4)
      have BW := Lib.hid W4
      obtain ⟨z, hz⟩ : ∃ z, (sbs qs).any (sup ⟨vv, gn, t⟩) = z := ⟨_, rfl⟩
      have HZ := Lib.hid hz
      have eg : ∀ args w, (callFunc 86 args).run Tryd.prog w = .ok (.enter 86 args) w := enters_of Tryd.func86 (by kernel_rfl) rfl
      have hcf := containsFunc_any (sup ⟨vv, gn, t⟩) 86 #[.pointer (some ⟨wr.heap.size, 0, none⟩)] eg (some ⟨g, 0, none⟩) M c3 qs (wr.alloc (.cells #[.slice A' n' c', .bool gn, .string t] 31)) L4.out (by unfold maxLen; omega) (fun W y hy hb =>
        (mergeSup_any A' y.A n' y.n c' y.c wr.heap.size vv y.s.vv gn y.s.gone t y.s.text W (V4.out.step hb) (I4.out.step hb) ((L4.out.step hb).2 y hy).1 N3.out (T5.out y hy)).mono fun _ _ ⟨he, hb'⟩ => ⟨he, hb.trans (hb'.mono hb.size)⟩)
      rw [hz] at hcf
      have HCF := Lib.hid hcf
      clear W4 c0 c1' c2' I eg hcf hz
      go_wp2_with fail
      refine HCF.out.mono ?_
      clear HCF
      rintro e w6 ⟨rfl, hb⟩
      have V6 := V4.out.step hb
      have B6 := Lib.hid (BW.out.trans (hb.mono BW.out.size))
      have B7 := Lib.hid (HB.out.trans (B6.out.mono hsz))
      have O6 := Lib.hid (row_keep HO.out (fun q hq => B6.out.block q (HO.out.lt q hq).2))
      have s6 := B6.out.size
      clear hb
      cases z
      · have r0 := V6.c0
        have r1 := V6.c1
        have r2 := V6.c2
        clear V6 q0 q1 q2
        go_wp2_with (at_builtin; go_must (refine app_sib2 _ rfl (.tmp 29) (.tmp 31) rfl w6 w5.heap.size (by omega) _ _ _ rfl O6.out (by omega) ⟨A', n', c', vv, gn, t⟩ w6.heap.size rfl rfl rfl ?_; intro g8 c8 w8 ho8 hb8 hs8 _ _))
        have B8 := Lib.hid (B7.out.trans hb8)
        have KP : Hid (kpTo qs (k + 1) = kpTo qs k ++ [⟨A', n', c', vv, gn, t⟩]) := Lib.hid (by rw [kpTo_succ hx.out, HZ.out]; rfl)
        have O8 := Lib.hid ho8
        clear ho8 hb8
        go_wp2
        go_roundw
        case rel =>
          have e : (kpTo qs (k + 1)).length = (kpTo qs k).length + 1 := by rw [KP.out]; simp
          refine ⟨k + 1, g8, c8, by omega, by go_num, by rw [e], B8.out, ?_⟩
          show World.ownsRow _ _ _ _ _ (kpTo qs (k + 1)).length (flat (kpTo qs (k + 1)))
          rw [e, KP.out]; exact O8.out
        case measure => simp [intOf]; omega
      · clear V6
        have KP : Hid (kpTo qs (k + 1) = kpTo qs k) := Lib.hid (by rw [kpTo_succ hx.out, HZ.out]; simp)
        go_wp2
        go_roundw
        case rel => exact ⟨k + 1, gg, cc, by omega, by go_num, by rw [KP.out], B7.out, by rw [KP.out]; exact O6.out⟩
        case measure => simp [intOf]; omega
    · obtain rfl : k = M := by omega
      go_wp2
      go_ret
      have hlt := HO.out.lt gg rfl
      refine ⟨gg, cc, kpTo qs k, rfl, B5.out.trans (HB.out.mono s5), ⟨row_mono HO.out s5, fun q hq => (HO.out.lt q hq).2, fun x hx => ?_, fun x hx q hq he => ?_, QS.out.sublist (kpTo_sub _ _)⟩, RES.out⟩
      · have ho := OW5.out x (kpTo_mem hx)
        exact (ho.keepB (fun q hq => HB.out.block q (ho.lt hq).2)).wide (Nat.le_refl _) hsz
      · injection hq with hq
        have hq' : gg = q := hq
        have := ((OW5.out x (kpTo_mem hx)).lt he).2
        omega

end Go.Proofs.YtlmjgbonoihccaaDoor

namespace Go.Proofs.YtlmjgbonoihccaaDoor
open Go.RowKit Go.PlainAid

/-- May two lists be merged? -/
def mergeOk (a b : List Sb) : Bool := sibsOk a && sibsOk b && sibsOk (mergeL a b)
/-- What SibsMerge answers. -/
def mergeV (a b : List Sb) : List Sb := if mergeOk a b then mergeL a b else []
theorem mergeV_yes {a b : List Sb} (h : mergeOk a b = true) : mergeV a b = mergeL a b := by unfold mergeV; rw [if_pos h]
theorem mergeV_no {a b : List Sb} (h : mergeOk a b = false) : mergeV a b = [] := by unfold mergeV; rw [if_neg (by rw [h]; exact Bool.false_ne_true)]
theorem mergeOk_iff {a b : List Sb} : mergeOk a b = true ↔ sibsOk a = true ∧ sibsOk b = true ∧ sibsOk (mergeL a b) = true := by
  unfold mergeOk
  rw [Bool.and_eq_true, Bool.and_eq_true, and_assoc]
theorem mergeV_len (a b : List Sb) : (mergeV a b).length ≤ 12 := by
  rcases h : mergeOk a b with _ | _
  · rw [mergeV_no h]; exact Nat.zero_le _
  · rw [mergeV_yes h]; exact (sibsOk_iff.1 (mergeOk_iff.1 h).2.2).2.2.2.2
theorem ownSibs_nil (w : World) (lo hi : Nat) : OwnSibs w lo hi none 0 0 [] :=
  ⟨World.ownsRow_nil _ _ _ _, (fun g hg => by cases hg), (fun k hk => by cases hk), (fun k hk => by cases hk), List.Pairwise.nil⟩
theorem ownSibs_new (w : World) {lo : Nat} (h : lo ≤ w.heap.size) : OwnSibs (w.alloc (.cells #[] 31)) lo (w.alloc (.cells #[] 31)).heap.size (some ⟨w.heap.size, 0, none⟩) 0 0 [] :=
  ⟨World.ownsRow_lit w #[] 0 h (by unfold maxLen; omega) rfl, (fun g hg => by injection hg with hg; have hg' : w.heap.size = g := hg; simp; omega), (fun k hk => by cases hk), (fun k hk => by cases hk), List.Pairwise.nil⟩
theorem sibs_len12 {ss : List Sb} {n : Nat} (h : sibsOk ss = true) (hl : ss.length = n) : 1 ≤ n ∧ n ≤ 12 := by
  have := (sibsOk_iff.1 h).2.2.2
  omega
/-- What a merge answers: the list lies in new memory. -/
def MadeM (w w' : World) (a b : List Sb) (e : Ending) : Prop := ∃ A' c' lr, e = .returned (.tuple #[.slice A' lr.length c', .bool (mergeOk a b)]) ∧ Below w.heap.size w w' ∧ OwnSibs w' w.heap.size w'.heap.size A' lr.length c' lr ∧ sbs lr = mergeV a b
def HasM (w w' : World) (a b : List Sb) (e : Ending) : Prop := ∃ A' c' lr, e = .returned (.tuple #[.slice A' lr.length c', .bool (mergeOk a b)]) ∧ Below w.heap.size w w' ∧ HasS w' A' lr.length lr ∧ lr.length ≤ 12 ∧ sbs lr = mergeV a b
theorem MadeM.has {w w' : World} {a b : List Sb} {e : Ending} (h : MadeM w w' a b e) : HasM w w' a b e := by
  obtain ⟨A', c', lr, he, hb, ho, hs⟩ := h
  refine ⟨A', c', lr, he, hb, ho.hasS (Nat.le_refl _), ?_, hs⟩
  rw [← sbs_len, hs]
  exact mergeV_len a b

set_option maxRecDepth 100000 in
set_option maxHeartbeats 1600000 in
theorem iSibsMerge_any (A B : Option Addr) (n m c d : Nat) (ka kb : List Kv) (w : World) (h1 : HasS w A n ka) (h2 : HasS w B m kb) (hn : n ≤ maxLen) (hm : m ≤ maxLen) :
    Calls Tryd.prog 22 #[.slice A n c, .slice B m d] w fun e w' => MadeM w w' (sbs ka) (sbs kb) e := by
  have H1 := Lib.hid h1
  have H2 := Lib.hid h2
  clear h1 h2
  by_cases k1 : sibsOk (sbs ka) = true
  · by_cases k2 : sibsOk (sbs kb) = true
    · obtain ⟨a1, a2⟩ := sibs_len12 k1 (by rw [sbs_len, H1.out.len])
      obtain ⟨b1, b2⟩ := sibs_len12 k2 (by rw [sbs_len, H2.out.len])
      have AS := Lib.hid (sibsOk_iff.1 k1).2.1
      have V1 := Lib.hid (allOk k1)
      have V2 := Lib.hid (allOk k2)
      go_enter Tryd.func22, Tryd.ntmps22
      go_wp2_with fail
      refine (areSibs_any A n c ka _ H1.out hn).mono ?_
      rintro e w1 ⟨rfl, hb⟩
      rw [k1]
      have B1 := Lib.hid hb
      replace H1 := Lib.hid (H1.out.step hb)
      replace H2 := Lib.hid (H2.out.step hb)
      clear hb
      go_wp2_with fail
      refine (areSibs_any B m d kb _ H2.out hm).mono ?_
      rintro e w2 ⟨rfl, hb⟩
      rw [k2]
      have B2 := Lib.hid (B1.out.trans (hb.mono B1.out.size))
      replace H1 := Lib.hid (H1.out.step hb)
      replace H2 := Lib.hid (H2.out.step hb)
      have s2 := B2.out.size
      clear hb
      go_wp2_with fail
      refine (mergeSibs_any A B n m c d ka kb _ H1.out H2.out (by omega) (by omega) (by omega) AS.out V1.out V2.out).mono ?_
      rintro e w3 ⟨g', c', lr, rfl, hb, ho, hs⟩
      have B3 := Lib.hid (B2.out.trans (hb.mono s2))
      have O3 := Lib.hid (ho.wide s2 (Nat.le_refl _))
      have S3 := Lib.hid hs
      have l3 : lr.length ≤ n + m := by
        have h1 := len_mergeL (sbs ka) (sbs kb)
        rw [← hs, sbs_len, sbs_len, sbs_len, H1.out.len, H2.out.len] at h1
        exact h1
      clear hb ho hs
      go_wp2_with fail
      refine (areSibs_any (some ⟨g', 0, none⟩) lr.length c' lr _ (O3.out.hasS (Nat.le_refl _)) (by unfold maxLen; omega)).mono ?_
      rintro e w4 ⟨rfl, hb⟩
      have B4 := Lib.hid (B3.out.trans (hb.mono B3.out.size))
      have O4 := Lib.hid ((O3.out.below hb (Nat.le_refl _)).wide (Nat.le_refl _) hb.size)
      rw [S3.out]
      clear hb
      by_cases k3 : sibsOk (mergeL (sbs ka) (sbs kb)) = true
      · rw [k3]
        go_wp2
        go_ret2
        have hk : mergeOk (sbs ka) (sbs kb) = true := mergeOk_iff.2 ⟨k1, k2, k3⟩
        exact ⟨some ⟨g', 0, none⟩, c', lr, by rw [hk]; rfl, B4.out, O4.out, by rw [mergeV_yes hk]; exact S3.out⟩
      · have k3' : sibsOk (mergeL (sbs ka) (sbs kb)) = false := by simpa using k3
        clear k3
        rw [k3']
        go_wp2
        go_ret2
        have hk : mergeOk (sbs ka) (sbs kb) = false := by unfold mergeOk; rw [k3']; simp
        exact ⟨none, 0, [], by rw [hk]; rfl, B4.out, ownSibs_nil _ _ _, by rw [mergeV_no hk]; rfl⟩
    · have k2' : sibsOk (sbs kb) = false := by simpa using k2
      clear k2
      go_enter Tryd.func22, Tryd.ntmps22
      go_wp2_with fail
      refine (areSibs_any A n c ka _ H1.out hn).mono ?_
      rintro e w1 ⟨rfl, hb⟩
      rw [k1]
      have B1 := Lib.hid hb
      replace H2 := Lib.hid (H2.out.step hb)
      clear hb
      go_wp2_with fail
      refine (areSibs_any B m d kb _ H2.out hm).mono ?_
      rintro e w2 ⟨rfl, hb⟩
      rw [k2']
      have B2 := Lib.hid (B1.out.trans (hb.mono B1.out.size))
      clear hb
      go_wp2
      go_ret2
      have hk : mergeOk (sbs ka) (sbs kb) = false := by unfold mergeOk; rw [k2']; simp
      exact ⟨none, 0, [], by rw [hk]; rfl, B2.out, ownSibs_nil _ _ _, by rw [mergeV_no hk]; rfl⟩
  · have k1' : sibsOk (sbs ka) = false := by simpa using k1
    clear k1
    go_enter Tryd.func22, Tryd.ntmps22
    go_wp2_with fail
    refine (areSibs_any A n c ka _ H1.out hn).mono ?_
    rintro e w1 ⟨rfl, hb⟩
    rw [k1']
    have B1 := Lib.hid hb
    clear hb
    go_wp2
    go_ret2
    have hk : mergeOk (sbs ka) (sbs kb) = false := by unfold mergeOk; rw [k1']; simp
    exact ⟨none, 0, [], by rw [hk]; rfl, B1.out, ownSibs_nil _ _ _, by rw [mergeV_no hk]; rfl⟩

set_option maxRecDepth 100000 in
set_option maxHeartbeats 1600000 in
theorem sSibsMerge_any (A B : Option Addr) (n m c d : Nat) (ka kb : List Kv) (w : World) (h1 : HasS w A n ka) (h2 : HasS w B m kb) (hn : n ≤ maxLen) (hm : m ≤ maxLen) :
    Calls Tryd.prog 26 #[.slice A n c, .slice B m d] w fun e w' => HasM w w' (sbs ka) (sbs kb) e := by
  have H1 := Lib.hid h1
  have H2 := Lib.hid h2
  clear h1 h2
  by_cases k1 : sibsOk (sbs ka) = true
  · by_cases k2 : sibsOk (sbs kb) = true
    · obtain ⟨a1, a2⟩ := sibs_len12 k1 (by rw [sbs_len, H1.out.len])
      obtain ⟨b1, b2⟩ := sibs_len12 k2 (by rw [sbs_len, H2.out.len])
      obtain ⟨b, off, rfl, _⟩ := H1.out.1.2 a1
      have V1 := Lib.hid (allOk k1)
      have V2 := Lib.hid (allOk k2)
      go_enter Tryd.func26, Tryd.ntmps26
      go_wp2_with fail
      refine (sSibsOk_any _ n c ka _ H1.out hn).mono ?_
      rintro e w1 ⟨rfl, hb⟩
      rw [k1]
      have B1 := Lib.hid hb
      replace H1 := Lib.hid (H1.out.step hb)
      replace H2 := Lib.hid (H2.out.step hb)
      clear hb
      go_wp2_with fail
      refine (sSibsOk_any B m d kb _ H2.out hm).mono ?_
      rintro e w2 ⟨rfl, hb⟩
      rw [k2]
      have B2 := Lib.hid (B1.out.trans (hb.mono B1.out.size))
      replace H1 := Lib.hid (H1.out.step hb)
      replace H2 := Lib.hid (H2.out.step hb)
      have s2 := B2.out.size
      clear hb
      go_wp2_with fail
      refine (l2Merge_any ⟨b, off, none⟩ B n c m d ka kb _ H1.out H2.out (by omega) (by omega) V1.out V2.out).mono ?_
      rintro e w3 ⟨g', c', lr, rfl, hb, ho, hw, _, hs⟩
      have B3 := Lib.hid (B2.out.trans (hb.mono s2))
      have O3 := Lib.hid (hasS_row ho (fun k hk => ((hw k hk).ok).wide (Nat.zero_le _) (Nat.le_refl _)))
      have S3 := Lib.hid hs
      have l3 : lr.length ≤ n + m := by
        have h1 := len_mergeL (sbs ka) (sbs kb)
        rw [← hs, sbs_len, sbs_len, sbs_len, H1.out.len, H2.out.len] at h1
        exact h1
      clear hb ho hw hs
      go_wp2_with fail
      refine (sSibsOk_any (some ⟨g', 0, none⟩) lr.length c' lr _ O3.out (by unfold maxLen; omega)).mono ?_
      rintro e w4 ⟨rfl, hb⟩
      have B4 := Lib.hid (B3.out.trans (hb.mono B3.out.size))
      have O4 := Lib.hid (O3.out.step hb)
      have s4 := B4.out.size
      rw [S3.out]
      clear hb
      by_cases k3 : sibsOk (mergeL (sbs ka) (sbs kb)) = true
      · rw [k3]
        go_wp2
        go_ret2
        have hk : mergeOk (sbs ka) (sbs kb) = true := mergeOk_iff.2 ⟨k1, k2, k3⟩
        have hl := (sibs_len12 k3 (by rw [← S3.out, sbs_len])).2
        exact ⟨some ⟨g', 0, none⟩, c', lr, by rw [hk]; rfl, B4.out, O4.out, hl, by rw [mergeV_yes hk]; exact S3.out⟩
      · have k3' : sibsOk (mergeL (sbs ka) (sbs kb)) = false := by simpa using k3
        clear k3
        rw [k3']
        go_wp2
        go_ret2
        have hk : mergeOk (sbs ka) (sbs kb) = false := by unfold mergeOk; rw [k3']; simp
        exact ⟨_, 0, [], by rw [hk]; rfl, B4.out.alloc s4 _, Sibs.nil _ _ _ _, Nat.zero_le _, by rw [mergeV_no hk]; rfl⟩
    · have k2' : sibsOk (sbs kb) = false := by simpa using k2
      clear k2
      go_enter Tryd.func26, Tryd.ntmps26
      go_wp2_with fail
      refine (sSibsOk_any A n c ka _ H1.out hn).mono ?_
      rintro e w1 ⟨rfl, hb⟩
      rw [k1]
      have B1 := Lib.hid hb
      replace H2 := Lib.hid (H2.out.step hb)
      clear hb
      go_wp2_with fail
      refine (sSibsOk_any B m d kb _ H2.out hm).mono ?_
      rintro e w2 ⟨rfl, hb⟩
      rw [k2']
      have B2 := Lib.hid (B1.out.trans (hb.mono B1.out.size))
      have s2 := B2.out.size
      clear hb
      go_wp2
      go_ret2
      have hk : mergeOk (sbs ka) (sbs kb) = false := by unfold mergeOk; rw [k2']; simp
      exact ⟨_, 0, [], by rw [hk]; rfl, B2.out.alloc s2 _, Sibs.nil _ _ _ _, Nat.zero_le _, by rw [mergeV_no hk]; rfl⟩
  · have k1' : sibsOk (sbs ka) = false := by simpa using k1
    clear k1
    go_enter Tryd.func26, Tryd.ntmps26
    go_wp2_with fail
    refine (sSibsOk_any A n c ka _ H1.out hn).mono ?_
    rintro e w1 ⟨rfl, hb⟩
    rw [k1']
    have B1 := Lib.hid hb
    have s1 := B1.out.size
    clear hb
    go_wp2
    go_ret2
    have hk : mergeOk (sbs ka) (sbs kb) = false := by unfold mergeOk; rw [k1']; simp
    exact ⟨_, 0, [], by rw [hk]; rfl, B1.out.alloc s1 _, Sibs.nil _ _ _ _, Nat.zero_le _, by rw [mergeV_no hk]; rfl⟩

end Go.Proofs.YtlmjgbonoihccaaDoor
