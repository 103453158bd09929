
/-
  Contract of the program's VvRead.
-/
import Derived.Test.YtkcoeeekeddgaaaDoorTextF
namespace Go.Proofs.YtkcoeeekeddgaaaDoor
open Go.RowKit Go.PlainAid

/-- The library's variables that reading comes to. -/
def LibVars (w : World) : Prop := (∃ m, w.cell? ⟨2, 0, none⟩ = some (.int .i64 m)) ∧ (∃ t p, w.cell? ⟨0, 0, none⟩ = some (.iface t p)) ∧ (∃ t p, w.cell? ⟨1, 0, none⟩ = some (.iface t p))
theorem LibVars.step {w w' : World} (h : LibVars w) (hb : Below w.heap.size w w') : LibVars w' := by
  obtain ⟨⟨m, h1⟩, ⟨t, p, h2⟩, ⟨t', p', h3⟩⟩ := h
  exact ⟨⟨m, cell_upC hb h1⟩, ⟨t, p, cell_upC hb h2⟩, ⟨t', p', cell_upC hb h3⟩⟩

theorem cutB_le : ∀ {l x : List UInt8}, x ∈ cutB l → x.length ≤ l.length
  | [], x, h => by
    unfold cutB at h
    rw [List.mem_singleton] at h
    rw [h]
    exact Nat.le_refl _
  | b :: r, x, h => by
    unfold cutB at h
    split at h
    · rcases List.mem_cons.1 h with rfl | h
      · exact Nat.zero_le _
      · have := cutB_le h; simp; omega
    · split at h
      · rename_i e; exact absurd e (cutB_ne r)
      · rename_i a t e
        rcases List.mem_cons.1 h with rfl | h
        · have := cutB_le (l := r) (x := a) (by rw [e]; simp); simp; omega
        · have := cutB_le (l := r) (x := x) (by rw [e]; simp [h]); simp; omega
theorem piece_size {t p : ByteArray} (h : p ∈ pieces t) : p.size ≤ t.size := by
  have h1 : p.data.toList ∈ (pieces t).map (·.data.toList) := List.mem_map_of_mem h
  rw [pieces_data] at h1
  have := cutB_le h1
  have e1 : p.data.toList.length = p.size := by simp
  have e2 : t.data.toList.length = t.size := by simp
  omega
theorem pieces_le (t : ByteArray) : (pieces t).length ≤ t.size + 1 := by
  have h1 := congrArg List.length (pieces_data t)
  have h2 := cutB_len t.data.toList
  rw [List.length_map] at h1
  have e2 : t.data.toList.length = t.size := by simp
  omega
/-- vs is what the first k pieces spell. -/
def Spells (t : ByteArray) (k : Nat) (vs : List Int) : Prop := vs.length = k ∧ ∀ (j : Nat) (v : Int), vs[j]? = some v → ∃ p : ByteArray, (pieces t)[j]? = some p ∧ Lib.atoiAll p.data.toList = .ok v
theorem Spells.zero (t : ByteArray) : Spells t 0 [] := ⟨rfl, fun j v h => by simp at h⟩
theorem Spells.succ {t p : ByteArray} {k : Nat} {vs : List Int} {v : Int} (h : Spells t k vs) (hp : (pieces t)[k]? = some p) (hv : Lib.atoiAll p.data.toList = .ok v) : Spells t (k + 1) (vs ++ [v]) := by
  refine ⟨by rw [List.length_append, h.1]; rfl, fun j x hj => ?_⟩
  by_cases hlt : j < k
  · rw [List.getElem?_append_left (by rw [h.1]; exact hlt)] at hj
    exact h.2 j x hj
  · have hl := (List.getElem?_eq_some_iff.1 hj).1
    rw [List.length_append, h.1] at hl
    obtain rfl : j = k := by simp at hl; omega
    rw [List.getElem?_append_right (by rw [h.1]; exact Nat.le_refl _), h.1, Nat.sub_self] at hj
    simp at hj
    subst hj
    exact ⟨p, hp, hv⟩
theorem Spells.eq {t : ByteArray} {vs ys : List Int} (h : Spells t (pieces t).length vs) (hy : vvOk ys = true) (ht : outT ys 3 = t) : vs = ys := by
  have h3 := pieces_three hy ht
  have hl := vvOk_len hy
  refine List.ext_getElem? fun j => ?_
  by_cases hj : j < 3
  · have hv : vs[j]? = some (vs[j]'(by rw [h.1]; omega)) := List.getElem?_eq_getElem _
    obtain ⟨p, hp, ha⟩ := h.2 j _ hv
    obtain ⟨i, hi, hyi, he⟩ := piece_dec hy ht hp
    rw [he, atoi_dec hi] at ha
    rw [hv, hyi]
    injection ha with ha
    rw [ha]
  · rw [List.getElem?_eq_none (by rw [h.1]; omega), List.getElem?_eq_none (by omega)]
theorem no_piece {t p : ByteArray} {k : Nat} (hp : (pieces t)[k]? = some p) (hn : ∀ v, Lib.atoiAll p.data.toList ≠ .ok v) : Reads t [] false := .inr ⟨rfl, rfl, fun ys hy e => by
  obtain ⟨i, hi, _, he⟩ := piece_dec hy e hp
  exact hn i (by rw [he, atoi_dec hi])⟩
theorem no_vv {t : ByteArray} {vs : List Int} (h : Spells t (pieces t).length vs) (hv : vvOk vs = false) : Reads t [] false := .inr ⟨rfl, rfl, fun ys hy e => by
  rw [h.eq hy e, hy] at hv
  cases hv⟩
theorem no_text {t : ByteArray} {vs : List Int} (h : Spells t (pieces t).length vs) (hv : outT vs 3 ≠ t) : Reads t [] false := .inr ⟨rfl, rfl, fun ys hy e => by
  rw [h.eq hy e] at hv
  exact hv e⟩
theorem row_pieces (w : World) (t : ByteArray) : TxtRow (w.alloc (.cells ((Lib.splitB ⟨#[46]⟩ 0 (Lib.countB t ⟨#[46]⟩) t).map Value.string).toArray 9)) w.heap.size (pieces t) := fun j p hp => by
  have hh := heap_alloc_new w (.cells ((Lib.splitB ⟨#[46]⟩ 0 (Lib.countB t ⟨#[46]⟩) t).map Value.string).toArray 9)
  have hp' : (Lib.splitB ⟨#[46]⟩ 0 (Lib.countB t ⟨#[46]⟩) t)[j]? = some p := hp
  generalize w.alloc (.cells ((Lib.splitB ⟨#[46]⟩ 0 (Lib.countB t ⟨#[46]⟩) t).map Value.string).toArray 9) = W at hh ⊢
  simp [World.cell?, hh, hp']

set_option maxRecDepth 100000 in
set_option maxHeartbeats 1600000 in
theorem iVvRead_any (t : ByteArray) (w : World) (hV : LibVars w) (ht : t.size ≤ 1048576) :
    Calls Tryd.prog 41 #[.string t] w fun e w' => ∃ (A : Option Addr) (n c : Nat) (xs : List Int) (ok : Bool), e = .returned (.tuple #[.slice A n c, .bool ok]) ∧ Below w.heap.size w w' ∧ w'.ownsRow w.heap.size 3 1 (.slice A n c) n (xs.map (Value.int .i64)) ∧ Reads t xs ok := by
  have V := Lib.hid hV
  have hpl := pieces_le t
  obtain ⟨mx, hmx⟩ := hV.1
  have HM := Lib.hid hmx
  have HSZ := Lib.hid (fun p (h : p ∈ pieces t) => piece_size h)
  clear hV hmx
  go_enter Tryd.func41, Tryd.ntmps41
  go_wp2_with fail
  refine (Tryd.strings_Split t ⟨#[46]⟩ mx _ HM.out (by omega) (Nat.le_refl _)).mono ?_
  rintro e w1 ⟨rfl, hw1⟩
  rw [← pieces_len]
  have hb : Below w.heap.size w w1 := by rw [hw1]; exact bel_alloc _ _
  have hr := row_pieces w t
  rw [← hw1] at hr
  have B1 := Lib.hid hb
  have R1 := Lib.hid hr
  have hs1 : w1.heap.size = w.heap.size + 1 := by rw [hw1]; simp
  clear hb hr hw1
  obtain ⟨N, hN⟩ : ∃ N, (pieces t).length = N := ⟨_, rfl⟩
  have HN := Lib.hid hN
  rw [hN] at hpl ⊢
  clear hN
  have hs2 : w.heap.size ≤ w1.heap.size := by omega
  have O1 : Hid ((w1.alloc (.cells #[] 3)).ownsRow w.heap.size 3 1 (.slice (some ⟨w.heap.size + 1, 0, none⟩) 0 0) 0 []) := Lib.hid (by
    rw [← hs1]; exact World.ownsRow_lit w1 #[] 0 hs2 (by unfold maxLen; omega) rfl)
  have R2 := Lib.hid (R1.out.step (bel_alloc w1 (.cells #[] 3)))
  have B2 := Lib.hid (B1.out.trans ((bel_alloc w1 (.cells #[] 3)).mono hs2))
  clear B1 R1
  go_wp2
  go_loopw [5, 15] (fun v i wr => ∃ (k gg cc : Nat) (vs : List Int), k ≤ N ∧ i = .int .i64 k ∧ v = .slice (some ⟨gg, 0, none⟩) k cc ∧ gg ≠ w.heap.size ∧ Hid (Below w.heap.size w wr) ∧ Hid (TxtRow wr w.heap.size (pieces t)) ∧ Hid (wr.ownsRow w.heap.size 3 1 (.slice (some ⟨gg, 0, none⟩) k cc) k (vs.map (Value.int .i64))) ∧ Hid (Spells t k vs)) (fun _ i _ => N - (intOf i).toNat)
  case atStart => exact ⟨0, _, 0, [], Nat.zero_le _, rfl, rfl, by omega, B2.out, R2.out, O1.out, Spells.zero t⟩
  case round =>
    obtain ⟨k, gg, cc, vs, hk, rfl, rfl, hne, HB, HR, HO, HS⟩ := hrel
    have hsz := HB.out.size
    by_cases hlt : k < N
    · obtain ⟨p, hp⟩ : ∃ p, (pieces t)[k]? = some p := ⟨(pieces t)[k]'(by rw [HN.out]; exact hlt), List.getElem?_eq_getElem _⟩
      have q0 := HR.out k p hp
      have hps := HSZ.out p (List.mem_of_getElem? hp)
      have hgl := HR.out.lt (by rw [HN.out]; omega)
      have HP := Lib.hid hp
      clear hp
      by_cases hok : ∃ v, Lib.atoiAll p.data.toList = .ok v
      · obtain ⟨v, hv⟩ := hok
        have HX := Lib.hid (HS.out.succ HP.out hv)
        have HV := Lib.hid hv
        clear hv
        go_wp2_with fail
        refine (Tryd.strconv_Atoi_ok p (by omega) v HV.out _).mono ?_
        rintro e w2 ⟨rfl, hb⟩
        have B3 := Lib.hid (HB.out.trans (hb.mono hsz))
        have R3 := Lib.hid (HR.out.step hb)
        have O3 := Lib.hid (own_keep HO.out hb)
        have hsz3 := B3.out.size
        have hgl3 := R3.out.lt (by rw [HN.out]; omega)
        clear hb q0
        go_wp2_with (at_builtin; go_must (refine app_int _ rfl (.tmp 26) (.tmp 28) rfl w2 w.heap.size hsz3 gg k cc vs rfl O3.out (by omega) v _ rfl rfl rfl ?_; intro g8 c8 w8 ho8 hb8 hk8 hg8 hs8))
        have B8 := Lib.hid (B3.out.trans hb8)
        have O8 := Lib.hid ho8
        have R8 := Lib.hid (R3.out.same (hk8 w.heap.size hgl3 (fun e => hne e.symm)))
        have hne8 : g8 ≠ w.heap.size := by omega
        clear ho8 hb8 hk8
        go_wp2
        go_roundw
        case rel => exact ⟨k + 1, g8, c8, vs ++ [v], by omega, by go_num, by simp, hne8, B8.out, R8.out, O8.out, HX.out⟩
        case measure => simp [intOf]; omega
      · have HE := Lib.hid (no_piece HP.out (fun v hv => hok ⟨v, hv⟩))
        have HNO := Lib.hid (fun v hv => hok ⟨v, hv⟩ : ∀ v, Lib.atoiAll p.data.toList ≠ .ok v)
        obtain ⟨_, ⟨t1, p1, h1⟩, ⟨t2, p2, h2⟩⟩ := V.out
        have H1 := Lib.hid ((HB.out.cell (World.block_lt_of_cell? w _ h1)).trans h1)
        have H2 := Lib.hid ((HB.out.cell (World.block_lt_of_cell? w _ h2)).trans h2)
        clear hok h1 h2
        go_wp2_with fail
        refine (Tryd.strconv_Atoi_bad p (by omega) HNO.out _ t1 t2 p1 p2 H1.out H2.out).mono ?_
        rintro e w2 ⟨x, t3, p3, rfl, hb⟩
        have B3 := Lib.hid (HB.out.trans (hb.mono hsz))
        clear hb q0
        go_wp2
        go_ret2
        exact ⟨_, 0, 0, [], false, rfl, B3.out, World.ownsRow_nil _ _ _ _, HE.out⟩
    · obtain rfl : k = N := by omega
      have HI := Lib.hid (Has.own HO.out)
      have HP := Lib.hid (by rw [HN.out]; exact HS.out : Spells t (pieces t).length vs)
      by_cases hv : vvOk vs = true
      · have e0 : vvOk vs = true := hv
        have HV := Lib.hid hv
        clear e0 hv
        go_wp2_with fail
        refine (isVv_any _ k cc vs _ _ _ HI.out (by unfold maxLen; omega)).mono ?_
        rintro e w2 ⟨rfl, rfl⟩
        rw [HV.out]
        go_wp2_with fail
        refine (vvText_any _ k cc vs _ HI.out HV.out).mono ?_
        rintro e w2 ⟨rfl, hb⟩
        have B3 := Lib.hid (HB.out.trans (hb.mono hsz))
        have I3 := Lib.hid (own_keep HO.out hb)
        clear hb
        by_cases he : outT vs 3 = t
        · have e1 : ((outT vs 3).toList == t.toList) = true := by rw [he]; exact beq_self_eq_true _
          have hr : Reads t vs true := .inl ⟨rfl, HV.out, he⟩
          have HR := Lib.hid hr
          clear hr
          clear he
          go_wp2
          go_ret2
          exact ⟨_, k, cc, vs, true, rfl, B3.out, I3.out, HR.out⟩
        · have e1 := ba_ne he
          have HR := Lib.hid (no_text HP.out he)
          clear he
          go_wp2
          go_ret2
          exact ⟨_, 0, 0, [], false, rfl, B3.out, World.ownsRow_nil _ _ _ _, HR.out⟩
      · have hv' : vvOk vs = false := by simpa using hv
        have HR := Lib.hid (no_vv HP.out hv')
        have HV := Lib.hid hv'
        clear hv hv'
        go_wp2_with fail
        refine (isVv_any _ k cc vs _ _ _ HI.out (by unfold maxLen; omega)).mono ?_
        rintro e w2 ⟨rfl, rfl⟩
        rw [HV.out]
        go_wp2
        go_ret2
        exact ⟨_, 0, 0, [], false, rfl, HB.out, World.ownsRow_nil _ _ _ _, HR.out⟩

theorem iVvRead_h (t : ByteArray) (w : World) (hV : LibVars w) (ht : t.size ≤ 1048576) :
    Calls Tryd.prog 41 #[.string t] w fun e w' => ∃ (A : Option Addr) (n c : Nat) (xs : List Int) (ok : Bool), e = .returned (.tuple #[.slice A n c, .bool ok]) ∧ Below w.heap.size w w' ∧ Has w' A n xs ∧ Reads t xs ok :=
  (iVvRead_any t w hV ht).mono (by rintro e w' ⟨A, n, c, xs, ok, rfl, hb, hO, hR⟩; exact ⟨A, n, c, xs, ok, rfl, hb, Has.own hO, hR⟩)

end Go.Proofs.YtkcoeeekeddgaaaDoor
