
/-
  Contracts of sibsShow and SibsShow (the program's and the reference's); of eqStringS, markText, markStringS, heldStringS.
-/
import Derived.Test.YtlmjgbonoihccaaDoorSibsC
import Derived.Test.YtlmjgbonoihccaaDoorSibsD
import Derived.Test.YtlmjgbonoihccaaDoorSibsE
import Derived.Test.YtlmjgbonoihccaaDoorDig
namespace Go.Proofs.YtlmjgbonoihccaaDoor
open Go.RowKit Go.PlainAid

/-- The texts that are shown. -/
def shown (ss : List Sb) : List ByteArray := (ss.filter fun s => !s.gone).map (·.text)
def shownTo (ss : List Sb) (k : Nat) : List ByteArray := shown (ss.take k)
theorem shownTo_zero (ss : List Sb) : shownTo ss 0 = [] := by simp [shownTo, shown]
theorem shownTo_succ {ss : List Sb} {k : Nat} {x : Sb} (hx : ss[k]? = some x) : shownTo ss (k + 1) = shownTo ss k ++ (if x.gone then [] else [x.text]) := by
  obtain ⟨hk, rfl⟩ := List.getElem?_eq_some_iff.1 hx
  unfold shownTo shown
  rw [List.take_succ_eq_append_getElem hk, List.filter_append, List.map_append]
  congr 1
  cases h : ss[k].gone <;> simp [h]
theorem shownTo_all {ss : List Sb} {k : Nat} (h : ss.length = k) : shownTo ss k = shown ss := by unfold shownTo; rw [List.take_of_length_le (by omega)]
theorem len_shown (ss : List Sb) : (shown ss).length ≤ ss.length := by
  unfold shown
  rw [List.length_map]
  exact List.length_filter_le _ _
theorem len_shownTo (ss : List Sb) (k : Nat) : (shownTo ss k).length ≤ k := by
  have h1 := len_shown (ss.take k)
  have h2 : (ss.take k).length ≤ k := by simp; omega
  unfold shownTo
  omega

/-! ## Lists of texts -/
def Txts (w : World) (lo hi : Nat) (A : Option Addr) (n : Nat) (ts : List ByteArray) : Prop := Row w lo hi A n 1 (ts.map Value.string)
section
variable {w w' : World} {lo hi lo' hi' n : Nat} {A : Option Addr} {ts : List ByteArray}
theorem Txts.len (h : Txts w lo hi A n ts) : ts.length = n := by have := h.1; simpa using this
theorem Txts.keep (h : Txts w lo hi A n ts) (k : Keep lo hi w w') : Txts w' lo hi A n ts := Row.keep h k
theorem Txts.wide (h : Txts w lo hi A n ts) (h1 : lo' ≤ lo) (h2 : hi ≤ hi') : Txts w lo' hi' A n ts := Row.wide h h1 h2
theorem Txts.below {B : Nat} (h : Txts w lo hi A n ts) (hb : Below B w w') (hB : hi ≤ B) : Txts w' lo hi A n ts := Row.below h hb hB
theorem Txts.at_ (h : Txts w lo hi A n ts) {k : Nat} (hk : k < n) : ∃ b off t, A = some ⟨b, off, none⟩ ∧ b < hi ∧ w.cell? ⟨b, off + k, none⟩ = some (.string t) ∧ Hid (ts[k]? = some t) := by
  obtain ⟨b, off, e, _, h2, hc⟩ := h.2 (by omega)
  have hl := h.len
  have hk' : ts[k]? = some ts[k] := List.getElem?_eq_getElem (by omega)
  exact ⟨b, off, ts[k], e, h2, hc k _ (by rw [List.getElem?_map, hk']; rfl), hk'⟩
end
/-- A list of texts that a call has made. -/
def OwnTxts (w : World) (lo hi : Nat) (A : Option Addr) (n c : Nat) (ts : List ByteArray) : Prop :=
  w.ownsRow lo 9 1 (.slice A n c) n (ts.map Value.string) ∧ ∀ g, (Value.slice A n c).ownBlock = some g → g < hi
section
variable {w w' : World} {lo hi lo' hi' n c : Nat} {A : Option Addr} {ts : List ByteArray}
theorem OwnTxts.of {base : Nat} (h : w.ownsRow base 9 1 (.slice A n c) n (ts.map Value.string)) (h1 : w.heap.size ≤ hi) : OwnTxts w base hi A n c ts :=
  ⟨h, fun g hg => by have := (h.lt g hg).2; omega⟩
theorem OwnTxts.txts (h : OwnTxts w lo hi A n c ts) : Txts w lo hi A n ts := by
  refine ⟨by have := h.1.1; simpa using this, fun hn => ?_⟩
  obtain ⟨g, cap, hv, hb, hlt⟩ := h.1.form hn
  have hA : A = some ⟨g, 0, none⟩ := by injection hv
  subst hA
  have hg := h.2 g rfl
  refine ⟨g, 0, rfl, hb, hg, fun j u hu => ?_⟩
  have hc := h.1.cells (g := g) rfl j u hu
  have hadd : (⟨g, 0, none⟩ : Addr).add j = ⟨g, 0 + j, none⟩ := by unfold Addr.add; split <;> simp_all
  rw [hadd] at hc
  exact hc
theorem OwnTxts.keep (h : OwnTxts w lo hi A n c ts) (q : Keep lo hi w w') : OwnTxts w' lo hi A n c ts := ⟨row_keep h.1 fun g hg => q g (h.1.lt g hg).1 (h.2 g hg), h.2⟩
theorem OwnTxts.below {B : Nat} (h : OwnTxts w lo hi A n c ts) (hb : Below B w w') (hB : hi ≤ B) : OwnTxts w' lo hi A n c ts := h.keep (.of_below hb hB)
theorem OwnTxts.len (h : OwnTxts w lo hi A n c ts) : ts.length = n := h.txts.len
end
theorem infoStr : (Tryd.prog.info? 9).map (fun i => (i.zero, i.size, i.bytes)) = some (some (.string ⟨#[]⟩), 1, 16) := by kernel_rfl

theorem own_val {w : World} {base : Nat} {e : TypeId} {size n : Nat} {v : Value} {xs : List Value} (h : w.ownsRow base e size v n xs) : ∃ A c, v = .slice A n c := by
  rcases h.2 with ⟨h2, h3⟩ | ⟨g, cap, cur, hv, _⟩
  · subst h3; exact ⟨none, 0, h2⟩
  · exact ⟨_, cap, hv⟩
def showOk (ss : List Sb) : List ByteArray := if sibsOk ss then shown ss else []
theorem showOk_yes {ss : List Sb} (h : sibsOk ss = true) : showOk ss = shown ss := by simp [showOk, h]
theorem showOk_no {ss : List Sb} (h : sibsOk ss = false) : showOk ss = [] := by simp [showOk, h]

/-- What SibsShow returns. -/
def MadeTxts (w w' : World) (ts : List ByteArray) (e : Ending) : Prop :=
  ∃ A' c', e = .returned (.slice A' ts.length c') ∧ Below w.heap.size w w' ∧ OwnTxts w' w.heap.size w'.heap.size A' ts.length c' ts

set_option maxRecDepth 100000 in
set_option maxHeartbeats 1600000 in
theorem sibsShow_any (A : Option Addr) (n c : Nat) (ks : List Kv) (w : World) (h : HasS w A n ks) (hn : n ≤ 1048576) :
    Calls Tryd.prog 65 #[.slice A n c] w fun e w' => MadeTxts w w' (shown (sbs ks)) e := by
  obtain ⟨i0, hi0, hz0, hz1, hz2⟩ := info_parts infoStr
  have H := Lib.hid h
  have HL := Lib.hid h.len
  have G2 := Lib.hid hz2
  clear h hz2
  go_enter Tryd.func65, Tryd.ntmps65
  go_wp2
  go_loopw [3, 9] (fun v i wr => ∃ k m : Nat, k ≤ n ∧ i = .int .i64 k ∧ m = (shownTo (sbs ks) k).length ∧ Hid (Below w.heap.size w wr) ∧ Hid (wr.ownsRow w.heap.size 9 1 v m ((shownTo (sbs ks) k).map Value.string))) (fun _ i _ => n - (intOf i).toNat)
  case atStart => exact ⟨0, 0, Nat.zero_le _, rfl, by rw [shownTo_zero]; rfl, (Below.refl _ _).alloc (Nat.le_refl _) _, by rw [shownTo_zero]; exact World.ownsRow_lit w #[] 0 (Nat.le_refl _) (by unfold maxLen; omega) rfl⟩
  case round =>
    obtain ⟨k, m, hk, rfl, hm, HB, HO⟩ := hrel
    have hm' : m ≤ k := by rw [hm]; exact len_shownTo _ _
    have HM := Lib.hid hm
    clear hm
    by_cases hlt : k < n
    · obtain ⟨b, off, A', n', c', vv, g, t, rfl, hbl, c0, c1, c2, I, hn', ht', hx⟩ := H.out.at_ hlt
      have q0 := cell_upC HB.out c0
      have q1 := cell_upC HB.out c1
      have q2 := cell_upC HB.out c2
      have hs := shownTo_succ (sbs_at hx.out)
      have B1 := Lib.hid (HB.out.alloc HB.out.size (.cells #[.slice A' n' c', .bool g, .string t] 31))
      have HO1 := Lib.hid (HO.out.alloc (.cells #[.slice A' n' c', .bool g, .string t] 31))
      clear c0 c1 c2 I
      have hsz := HB.out.size
      cases g
      · have HS : Hid (shownTo (sbs ks) (k + 1) = shownTo (sbs ks) k ++ [t]) := Lib.hid hs
        clear hs
        go_wp2_with (at_builtin; go_must (refine wpList_append_own _ rfl (.tmp 16) (.tmp 19) 44 rfl w.heap.size 9 i0 (.string ⟨#[]⟩) 1 16 Tryd.underlying44 hi0 hz0 hz1 G2.out rfl (by decide) _ m _ rfl (HO1.out.alloc _) ⟨wr.heap.size + 1, 0, none⟩ 1 1 [.string t] rfl rfl (by have := cell_one_new (wr.alloc (.cells #[.slice A' n' c', .bool false, .string t] 31)) (.string t) 9; simpa using this) (by intro u hu; simp at hu; subst hu; rfl) (by unfold maxLen; omega) (by omega) (by simp; omega) ?_; intro v' w1 hown1 hg1 _))
        have hb1 : Below w.heap.size w w1 := (B1.out.alloc B1.out.size _).grown hg1 (by simp; omega) (fun g hg => (HO1.out.lt g hg).1)
        have hown2 : w1.ownsRow w.heap.size 9 1 v' (m + 1) ((shownTo (sbs ks) (k + 1)).map Value.string) := by
          rw [HS.out, List.map_append]
          exact hown1
        clear hown1 hg1
        go_wp2
        go_roundw
        case rel => exact ⟨k + 1, m + 1, by omega, by go_num, by rw [HS.out, List.length_append, ← HM.out]; rfl, hb1, hown2⟩
        case measure => simp [intOf]; omega
      · have HS : Hid (shownTo (sbs ks) (k + 1) = shownTo (sbs ks) k) := Lib.hid (by rw [hs]; simp)
        clear hs
        go_wp2
        go_roundw
        case rel => exact ⟨k + 1, m, by omega, by go_num, by rw [HS.out]; exact HM.out, B1.out, by rw [HS.out]; exact HO1.out⟩
        case measure => simp [intOf]; omega
    · go_wp2
      go_ret
      have e : shownTo (sbs ks) k = shown (sbs ks) := shownTo_all (by rw [sbs_len, HL.out]; omega)
      have HO' := HO.out
      have HM' := HM.out
      rw [e] at HO' HM'
      subst HM'
      obtain ⟨A', c', rfl⟩ := own_val HO'
      exact ⟨A', c', rfl, HB.out, OwnTxts.of HO' (Nat.le_refl _)⟩

set_option maxRecDepth 100000 in
theorem iSibsShow_any (A : Option Addr) (n c : Nat) (ks : List Kv) (w : World) (h : HasS w A n ks) (hn : n ≤ 1048576) :
    Calls Tryd.prog 32 #[.slice A n c] w fun e w' => MadeTxts w w' (showOk (sbs ks)) e := by
  have H := Lib.hid h
  clear h
  by_cases k1 : sibsOk (sbs ks) = true
  · go_enter Tryd.func32, Tryd.ntmps32
    go_wp2_with fail
    refine (areSibs_any A n c ks _ H.out (by unfold maxLen; omega)).mono ?_
    rintro e w1 ⟨rfl, hb⟩
    rw [k1]
    have B1 := Lib.hid hb
    have H1 := Lib.hid (H.out.step hb)
    clear hb
    go_wp2_with fail
    refine (sibsShow_any A n c ks _ H1.out hn).mono ?_
    rintro e w2 ⟨A', c', rfl, hb, ho⟩
    have B2 := Lib.hid (B1.out.trans (hb.mono B1.out.size))
    have HO := Lib.hid ho
    have hs1 := B1.out.size
    clear hb ho
    go_wp2
    go_ret
    rw [showOk_yes k1]
    exact ⟨A', c', rfl, B2.out, row_mono HO.out.1 hs1, HO.out.2⟩
  · have k1' : sibsOk (sbs ks) = false := by simpa using k1
    clear k1
    go_enter Tryd.func32, Tryd.ntmps32
    go_wp2_with fail
    refine (areSibs_any A n c ks _ H.out (by unfold maxLen; omega)).mono ?_
    rintro e w1 ⟨rfl, hb⟩
    rw [k1']
    have B1 := Lib.hid hb
    clear hb
    go_wp2
    go_ret
    rw [showOk_no k1']
    exact ⟨none, 0, rfl, B1.out, World.ownsRow_nil _ _ _ _, fun g hg => by cases hg⟩

set_option maxRecDepth 100000 in
set_option maxHeartbeats 1600000 in
theorem sSibsShow_any (A : Option Addr) (n c : Nat) (ks : List Kv) (w : World) (h : HasS w A n ks) (hn : n ≤ 1048576) :
    Calls Tryd.prog 33 #[.slice A n c] w fun e w' => MadeTxts w w' (showOk (sbs ks)) e := by
  obtain ⟨i0, hi0, hz0, hz1, hz2⟩ := info_parts infoStr
  have b0 := bel_alloc w (.cells #[] 9)
  have B0 := Lib.hid b0
  have H := Lib.hid (h.step b0)
  have HL := Lib.hid h.len
  have HW := Lib.hid h
  have G2 := Lib.hid hz2
  have E0 : Hid ((w.alloc (.cells #[] 9)).ownsRow w.heap.size 9 1 (.slice (some ⟨w.heap.size, 0, none⟩) 0 0) 0 []) := Lib.hid (World.ownsRow_lit w #[] 0 (Nat.le_refl _) (by unfold maxLen; omega) rfl)
  clear h hz2 b0
  by_cases k1 : sibsOk (sbs ks) = true
  · go_enter Tryd.func33, Tryd.ntmps33
    go_wp2_with fail
    refine (sSibsOk_any A n c ks _ H.out (by unfold maxLen; omega)).mono ?_
    rintro e w1 ⟨rfl, hb⟩
    rw [k1]
    have B1 := Lib.hid (B0.out.trans (hb.mono B0.out.size))
    have E1 := Lib.hid (row_keep E0.out (fun g hg => hb.block g (E0.out.lt g hg).2))
    clear hb
    go_wp2
    go_loopw [3, 4] (fun v i wr => ∃ k m : Nat, k ≤ n ∧ i = .int .i64 k ∧ m = (shownTo (sbs ks) k).length ∧ Hid (Below w.heap.size w wr) ∧ Hid (wr.ownsRow w.heap.size 9 1 v m ((shownTo (sbs ks) k).map Value.string))) (fun _ i _ => n - (intOf i).toNat)
    case atStart => exact ⟨0, 0, Nat.zero_le _, rfl, by rw [shownTo_zero]; rfl, B1.out, by rw [shownTo_zero]; exact E1.out⟩
    case round =>
      obtain ⟨k, m, hk, rfl, hm, HB, HO⟩ := hrel
      have hm' : m ≤ k := by rw [hm]; exact len_shownTo _ _
      have HM := Lib.hid hm
      clear hm
      by_cases hlt : k < n
      · obtain ⟨b, off, A', n', c', vv, g, t, rfl, hbl, c0, c1, c2, I, hn', ht', hx⟩ := HW.out.at_ hlt
        have q0 := cell_upC HB.out c0
        have q1 := cell_upC HB.out c1
        have q2 := cell_upC HB.out c2
        have hs := shownTo_succ (sbs_at hx.out)
        have hsz := HB.out.size
        clear I c0 c1 c2
        cases g
        · have HS : Hid (shownTo (sbs ks) (k + 1) = shownTo (sbs ks) k ++ [t]) := Lib.hid hs
          clear hs
          go_wp2_with (at_builtin; go_must (refine wpList_append_own _ rfl (.tmp 22) (.tmp 28) 44 rfl w.heap.size 9 i0 (.string ⟨#[]⟩) 1 16 Tryd.underlying44 hi0 hz0 hz1 G2.out rfl (by decide) _ m _ rfl (HO.out.alloc _) ⟨wr.heap.size, 0, none⟩ 1 1 [.string t] rfl rfl (cell_one_new _ _ _) (by intro u hu; simp at hu; subst hu; rfl) (by unfold maxLen; omega) (by omega) (by simp; omega) ?_; intro v' w2 hown1 hg1 _))
          have hb1 : Below w.heap.size w w2 := (HB.out.alloc HB.out.size _).grown hg1 (by simp; omega) (fun g hg => (HO.out.lt g hg).1)
          have hown2 : w2.ownsRow w.heap.size 9 1 v' (m + 1) ((shownTo (sbs ks) (k + 1)).map Value.string) := by
            rw [HS.out, List.map_append]
            exact hown1
          clear hown1 hg1
          go_wp2
          go_roundw
          case rel => exact ⟨k + 1, m + 1, by omega, by go_num, by rw [HS.out, List.length_append, ← HM.out]; rfl, hb1, hown2⟩
          case measure => simp [intOf]; omega
        · have HS : Hid (shownTo (sbs ks) (k + 1) = shownTo (sbs ks) k) := Lib.hid (by rw [hs]; simp)
          clear hs
          go_wp2
          go_roundw
          case rel => exact ⟨k + 1, m, by omega, by go_num, by rw [HS.out]; exact HM.out, HB.out, by rw [HS.out]; exact HO.out⟩
          case measure => simp [intOf]; omega
      · go_wp2
        go_ret
        have e : shownTo (sbs ks) k = shown (sbs ks) := shownTo_all (by rw [sbs_len, HL.out]; omega)
        have HO' := HO.out
        have HM' := HM.out
        rw [e] at HO' HM'
        subst HM'
        obtain ⟨A', c', rfl⟩ := own_val HO'
        rw [showOk_yes k1]
        exact ⟨A', c', rfl, HB.out, OwnTxts.of HO' (Nat.le_refl _)⟩
  · have k1' : sibsOk (sbs ks) = false := by simpa using k1
    clear k1
    go_enter Tryd.func33, Tryd.ntmps33
    go_wp2_with fail
    refine (sSibsOk_any A n c ks _ H.out (by unfold maxLen; omega)).mono ?_
    rintro e w1 ⟨rfl, hb⟩
    rw [k1']
    have B1 := Lib.hid (B0.out.trans (hb.mono B0.out.size))
    have E1 := Lib.hid (row_keep E0.out (fun g hg => hb.block g (E0.out.lt g hg).2))
    clear hb
    go_wp2
    go_ret
    rw [showOk_no k1']
    exact ⟨_, 0, rfl, B1.out, OwnTxts.of E1.out (Nat.le_refl _)⟩

end Go.Proofs.YtlmjgbonoihccaaDoor
