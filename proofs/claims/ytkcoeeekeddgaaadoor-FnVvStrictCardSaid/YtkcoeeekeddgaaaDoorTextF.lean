
/-
  Contract of the reference's VvRead.
-/
import Derived.Test.YtkcoeeekeddgaaaDoorTextE
namespace Go.Proofs.YtkcoeeekeddgaaaDoor
open Go.RowKit Go.PlainAid

/-- One number more, behind a row that the call has made; other rows stay. -/
theorem app_int {ops : Array Oper} {rest : List Oper} {o : Oper} {a : Act} {Q : Exit → Act → World → Prop} (W : World) (hgd : o.guard = none) (s x : Operand)
    (ho : o.op = .call { callee := .builtin .append, args := #[s, x], argTypes := #[22, 22] }) (w0 : World) (base : Nat) (hbase : base ≤ w0.heap.size) (g n cap : Nat) (xs : List Int) (hs : a.eval s = .slice (some ⟨g, 0, none⟩) n cap)
    (hown : w0.ownsRow base 3 1 (.slice (some ⟨g, 0, none⟩) n cap) n (xs.map (Value.int .i64))) (hn : n ≤ 2000000) (y : Int) (H : Nat) (hH : w0.heap.size = H) (hx : a.eval x = .slice (some ⟨H, 0, none⟩) 1 1)
    (hW : W = w0.alloc (.cells #[.int .i64 y] 3))
    (h : ∀ g' cap' w', w'.ownsRow base 3 1 (.slice (some ⟨g', 0, none⟩) (n + 1) cap') (n + 1) ((xs ++ [y]).map (Value.int .i64)) → Below base w0 w' → (∀ k, k < w0.heap.size → k ≠ g → w'.heap[k]? = w0.heap[k]?) → (g' = g ∨ w0.heap.size ≤ g') → w0.heap.size ≤ w'.heap.size → wpList Tryd.prog ops Q rest (a.put o.dst (.slice (some ⟨g', 0, none⟩) (n + 1) cap')) w') :
    wpList Tryd.prog ops Q (o :: rest) a W := by
  subst hW
  obtain ⟨i0, hi0, hz0, hz1, hz2⟩ := info_parts infoInt
  subst hH
  refine wpList_append_lies _ hgd s x 22 ho base 3 i0 _ 1 8 Tryd.underlying22 hi0 hz0 hz1 hz2 rfl (by omega) _ n _ hs (hown.alloc _) ⟨w0.heap.size, 0, none⟩ 1 1 [.int .i64 y] hx rfl (cell_one_new _ _ _) (fun u hu => by simp at hu; subst hu; rfl) (by omega) (by unfold maxLen; omega) (by omega) (by simp; omega) (w0.heap.size + 1) (by simp) (fun g' cap' w' hown1 hg1 hgg _ => ?_)
  have hsz := hg1.size
  refine h g' cap' w' (by rw [List.map_append]; exact hown1) (((Below.refl base w0).alloc hbase _).grown hg1 (by simp; omega) (fun g hg => (hown.lt g hg).1)) (fun k hk hkg => ?_) ?_ (by simp at hsz; omega)
  · exact (hg1.block k (by simp; omega) (fun e => hkg (by simpa [Value.ownBlock] using e))).trans (((Below.refl w0.heap.size w0).alloc (Nat.le_refl _) _).block k hk)
  · rcases hgg with e | e
    · left; simpa [Value.ownBlock] using e.symm
    · right; omega

theorem own_keep {w w' : World} {base : Nat} {e : TypeId} {size n : Nat} {v : Value} {xs : List Value} (h : w.ownsRow base e size v n xs) (hb : Below w.heap.size w w') : w'.ownsRow base e size v n xs :=
  h.kept (row := none) ⟨hb.os, hb.tape, hb.output, hb.size, fun k hk _ => hb.block k hk⟩ (by cases v.ownBlock <;> simp)
/-- A row of texts. -/
def TxtRow (w : World) (g : Nat) (ps : List ByteArray) : Prop := ∀ j p, ps[j]? = some p → w.cell? ⟨g, j, none⟩ = some (.string p)
theorem TxtRow.step {w w' : World} {g : Nat} {ps : List ByteArray} (h : TxtRow w g ps) (hb : Below w.heap.size w w') : TxtRow w' g ps := fun j p hj => cell_upC hb (h j p hj)
theorem TxtRow.same {w w' : World} {g : Nat} {ps : List ByteArray} (h : TxtRow w g ps) (hb : w'.heap[g]? = w.heap[g]?) : TxtRow w' g ps := fun j p hj => (World.cell?_of_block (w := w) (w' := w') (a := ⟨g, j, none⟩) hb).trans (h j p hj)
theorem TxtRow.own {w : World} {base g n c : Nat} {ps : List ByteArray} (h : w.ownsRow base 9 1 (.slice (some ⟨g, 0, none⟩) n c) n (ps.map Value.string)) : TxtRow w g ps := fun j p hj => by
  have hl := h.1
  rw [List.length_map] at hl
  have hj' := (List.getElem?_eq_some_iff.1 hj).1
  rw [h.cellAt j (by omega), List.getElem?_map, hj]
  rfl
theorem TxtRow.lt {w : World} {g : Nat} {ps : List ByteArray} (h : TxtRow w g ps) (h1 : 1 ≤ ps.length) : g < w.heap.size := by
  have := h 0 ps[0] (List.getElem?_eq_getElem (by omega))
  exact World.block_lt_of_cell? w _ this

theorem cutB_len : ∀ l : List UInt8, (cutB l).length ≤ l.length + 1
  | [] => Nat.le_refl _
  | b :: r => by
    have ih := cutB_len r
    unfold cutB
    split
    · simp; omega
    · split
      · simp
      · rename_i h t e
        rw [e] at ih
        simp at ih ⊢
        omega
/-- What the first k pieces say. -/
def rdTo (ps : List ByteArray) (k : Nat) : List Int := (ps.map fun p => decB p.data.toList).take k
theorem rdTo_succ {ps : List ByteArray} {k : Nat} {p : ByteArray} (h : ps[k]? = some p) : rdTo ps (k + 1) = rdTo ps k ++ [decB p.data.toList] := by
  obtain ⟨hk, e⟩ := List.getElem?_eq_some_iff.1 h
  unfold rdTo
  rw [List.take_succ_eq_append_getElem (by simpa using hk)]
  simp [e]
theorem rdTo_all (ps : List ByteArray) : rdTo ps ps.length = (ps.map (·.data.toList)).map decB := by
  unfold rdTo
  rw [List.take_of_length_le (by simp), List.map_map]
  rfl
theorem cut_read {t : ByteArray} {ps : List ByteArray} (h : ps.map (·.data.toList) = cutB t.data.toList) {ys : List Int} (hy : vvOk ys = true) (ht : outT ys 3 = t) : rdTo ps ps.length = ys := by
  rw [rdTo_all, h, ← ht, cut_out hy, map_decB hy]
theorem ba_ne {a b : ByteArray} (h : a ≠ b) : (a.toList == b.toList) = false := by
  rw [Bool.eq_false_iff]
  intro e
  rw [beq_iff_eq, Lib.toList_data, Lib.toList_data] at e
  refine h ?_
  cases a
  cases b
  simp at e
  rw [e]
theorem ba_empty {t : ByteArray} (h : t.toList = []) : t = ⟨#[]⟩ := by
  rw [Lib.toList_data] at h
  cases t
  simp at h
  rw [h]
theorem reads_long {t : ByteArray} (h : 10 < t.size) : Reads t [] false := .inr ⟨rfl, rfl, fun ys hy e => by
  have := outT_size hy 3 (by omega)
  rw [e] at this
  omega⟩
theorem reads_no {t : ByteArray} {ps : List ByteArray} (h : ps.map (·.data.toList) = cutB t.data.toList) (hn : textV (rdTo ps ps.length) ≠ t) : Reads t [] false := .inr ⟨rfl, rfl, fun ys hy e => by
  rw [cut_read h hy e, textV_yes hy] at hn
  exact hn e⟩
theorem reads_empty {t : ByteArray} (h : t = ⟨#[]⟩) : Reads t [] false := .inr ⟨rfl, rfl, fun ys hy e => by
  have := out_ne hy
  rw [e, h, Lib.toList_data] at this
  simp at this⟩
theorem reads_yes {t : ByteArray} {xs : List Int} (h : textV xs = t) (h0 : t ≠ ⟨#[]⟩) : Reads t xs true := by
  by_cases hv : vvOk xs = true
  · exact .inl ⟨rfl, hv, by rw [← h, textV_yes hv]⟩
  · exact absurd (h.symm.trans (textV_no (by simpa using hv))) h0

theorem bel_alloc' {B : Nat} {a W : World} {o : Obj} (h : Below B a W) (hB : B ≤ a.heap.size := by exact Nat.le_refl _) : Below B a (W.alloc o) := h.alloc (Nat.le_trans hB h.size) o

set_option maxRecDepth 100000 in
set_option maxHeartbeats 1600000 in
theorem sVvRead_any (t : ByteArray) (w : World) :
    Calls Tryd.prog 43 #[.string t] w fun e w' => ∃ (A : Option Addr) (n c : Nat) (xs : List Int) (ok : Bool), e = .returned (.tuple #[.slice A n c, .bool ok]) ∧ Below w.heap.size w w' ∧ Has w' A n xs ∧ Reads t xs ok := by
  by_cases hlong : 10 < t.size
  · have HR := Lib.hid (reads_long hlong)
    have hl : (10 : Int) < (t.size : Int) := by omega
    go_enter Tryd.func43, Tryd.ntmps43
    go_wp2
    go_ret2
    exact ⟨_, 0, 0, [], false, rfl, bel_alloc _ _, Ints.nil _ _ _ _, HR.out⟩
  · have hl : ¬ (10 : Int) < (t.size : Int) := by omega
    go_enter Tryd.func43, Tryd.ntmps43
    go_wp2_with fail
    refine (l1Cut_any t _ (by omega)).mono ?_
    rintro e w1 ⟨g1, c1, ps, rfl, hb, hO, hP, hS⟩
    have B1 := Lib.hid ((bel_alloc w (.cells #[] 3)).trans (hb.mono (by simp)))
    have R1 := Lib.hid (TxtRow.own hO)
    have hg1 := (hO.lt g1 rfl).1
    have HP := Lib.hid hP
    have HS := Lib.hid hS
    have hO0 : (w.alloc (.cells #[] 3)).ownsRow w.heap.size 3 1 (.slice (some ⟨w.heap.size, 0, none⟩) 0 0) 0 [] := World.ownsRow_lit w #[] 0 (Nat.le_refl _) (by unfold maxLen; omega) rfl
    have O1 := Lib.hid (own_keep hO0 hb)
    obtain ⟨N, hN⟩ : ∃ N, ps.length = N := ⟨_, rfl⟩
    have hN12 : N ≤ 11 := by
      have h1 := congrArg List.length hP
      have h2 := cutB_len t.data.toList
      rw [List.length_map] at h1
      have h3 : t.data.toList.length = t.size := by simp
      omega
    have HN := Lib.hid hN
    rw [hN]
    clear hb hO hP hS hO0 hN
    go_wp2
    go_loopw [4, 6] (fun v i wr => ∃ k gg cc : Nat, k ≤ N ∧ i = .int .i64 k ∧ v = .slice (some ⟨gg, 0, none⟩) k cc ∧ gg ≠ g1 ∧ Hid (Below w.heap.size w wr) ∧ Hid (TxtRow wr g1 ps) ∧ Hid (wr.ownsRow w.heap.size 3 1 (.slice (some ⟨gg, 0, none⟩) k cc) k ((rdTo ps k).map (Value.int .i64)))) (fun _ i _ => N - (intOf i).toNat)
    case atStart => exact ⟨0, _, 0, Nat.zero_le _, rfl, rfl, by simp at hg1; omega, B1.out, R1.out, O1.out⟩
    case round =>
      obtain ⟨k, gg, cc, hk, rfl, rfl, hne, HB, HR, HO⟩ := hrel
      have hsz := HB.out.size
      by_cases hlt : k < N
      · obtain ⟨p, hp⟩ : ∃ p, ps[k]? = some p := ⟨ps[k]'(by rw [HN.out]; exact hlt), List.getElem?_eq_getElem _⟩
        have q0 := HR.out k p hp
        have hps := HS.out p (List.mem_of_getElem? hp)
        have HX := Lib.hid (rdTo_succ hp)
        have hgl := HR.out.lt (by rw [HN.out]; omega)
        clear hp
        go_wp2_with fail
        refine (l1Dec_any p _ (by omega)).mono ?_
        rintro e w2 ⟨rfl, rfl⟩
        go_wp2_with (at_builtin; go_must (refine app_int _ rfl (.tmp 20) (.tmp 26) rfl wr w.heap.size hsz gg k cc (rdTo ps k) rfl HO.out (by omega) (decB p.data.toList) _ rfl rfl rfl ?_; intro g8 c8 w8 ho8 hb8 hk8 hg8 hs8))
        have B8 := Lib.hid (HB.out.trans hb8)
        have O8 := Lib.hid ho8
        have R8 := Lib.hid (HR.out.same (hk8 g1 hgl (fun e => hne e.symm)))
        have hne8 : g8 ≠ g1 := by omega
        clear ho8 hb8 hk8 q0
        go_wp2
        go_roundw
        case rel => exact ⟨k + 1, g8, c8, by omega, by go_num, by simp, hne8, B8.out, R8.out, by rw [HX.out]; exact O8.out⟩
        case measure => simp [intOf]; omega
      · obtain rfl : k = N := by omega
        have HI := Lib.hid (Has.own HO.out)
        go_wp2_with fail
        refine (sVvText_any _ k cc _ _ HI.out (by unfold maxLen; omega)).mono ?_
        rintro e w2 ⟨rfl, hb⟩
        have B2 := Lib.hid (HB.out.trans (hb.mono hsz))
        have I2 := Lib.hid (HI.out.step hb)
        have HT := Lib.hid (show rdTo ps k = rdTo ps ps.length by rw [HN.out])
        clear hb HI
        by_cases he : textV (rdTo ps k) = t
        · have e1 : ((textV (rdTo ps k)).toList == t.toList) = true := by rw [he]; exact beq_self_eq_true _
          by_cases h0 : t.toList = []
          · have HR := Lib.hid (reads_empty (ba_empty h0))
            have e0 : (t.toList == []) = true := by rw [h0]; rfl
            clear he h0
            go_wp2
            go_ret2
            exact ⟨_, 0, 0, [], false, rfl, bel_alloc' B2.out, Ints.nil _ _ _ _, HR.out⟩
          · have HR := Lib.hid (reads_yes he (fun e => h0 (by rw [e, Lib.toList_data])))
            have e0 : (t.toList == []) = false := by simpa using h0
            clear he h0
            go_wp2
            go_ret2
            exact ⟨_, k, cc, _, true, rfl, B2.out, I2.out, HR.out⟩
        · have e1 := ba_ne he
          have HR := Lib.hid (reads_no HP.out (by rw [← HT.out]; exact he))
          clear he
          go_wp2
          go_ret2
          exact ⟨_, 0, 0, [], false, rfl, bel_alloc' B2.out, Ints.nil _ _ _ _, HR.out⟩

end Go.Proofs.YtkcoeeekeddgaaaDoor
