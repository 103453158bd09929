
/-
  Contracts of the texts of counts: l1Text, vvText, VvText (the program's and the reference's).
-/
import Derived.Test.YtkcoeeekeddgaaaDoorTextA
import Derived.Test.YtkcoeeekeddgaaaDoorShelfText
import Derived.Test.YtkcoeeekeddgaaaDoorSibC
import Derived.Lib.Join
import Derived.Deep.AppendLies
namespace Go.Proofs.YtkcoeeekeddgaaaDoor
open Go.RowKit Go.PlainAid

/-! ## Texts -/
/-- The decimals of the first k numbers, with a point between. -/
def outT (xs : List Int) (k : Nat) : ByteArray := ⟨(Lib.join ((xs.take k).map fun x => Lib.decDigits x.toNat) [46]).toArray⟩
theorem ba_mk (a b : List UInt8) : (⟨a.toArray⟩ : ByteArray) ++ ⟨b.toArray⟩ = ⟨(a ++ b).toArray⟩ := by
  apply ByteArray.ext
  simp
theorem outT_zero (xs : List Int) : outT xs 0 = ⟨#[]⟩ := by simp [outT, Lib.join_nil]
theorem outT_first {xs : List Int} {x : Int} (h : xs[0]? = some x) : outT xs 1 = dg x.toNat := by
  obtain ⟨h0, e⟩ := List.getElem?_eq_some_iff.1 h
  unfold outT dg
  rw [List.take_succ_eq_append_getElem h0, e]
  simp [Lib.join_one]
theorem outT_succ {xs : List Int} {k : Nat} {x : Int} (h : xs[k + 1]? = some x) : outT xs (k + 2) = outT xs (k + 1) ++ ⟨#[46]⟩ ++ dg x.toNat := by
  obtain ⟨h0, e⟩ := List.getElem?_eq_some_iff.1 h
  match xs, h0, e with
  | a :: r, h0, e =>
    have hr : r[k]? = some x := by simpa using h
    have h1 : (List.map (fun x : Int => Lib.decDigits x.toNat) r)[k]? = some (Lib.decDigits x.toNat) := by simp [hr]
    have h2 := Lib.joinTail_take_succ [46] _ k _ h1
    unfold outT dg
    rw [List.take_succ_cons, List.take_succ_cons, List.map_cons, List.map_cons, Lib.join_cons, Lib.join_cons, List.map_take, List.map_take, h2]
    apply ByteArray.ext
    simp
theorem dg_two {x : Int} (h : x ≤ 30) : (dg x.toNat).size ≤ 2 := dg_size (by omega)
theorem outT_size {xs : List Int} (hv : vvOk xs = true) : ∀ k, k ≤ 3 → (outT xs k).size ≤ 3 * k
  | 0, _ => by rw [outT_zero]; exact Nat.le_refl _
  | 1, _ => by
    have h0 : 0 < xs.length := by rw [vvOk_len hv]; omega
    have hx := (vvOk_eq xs).1 hv
    have := hx.2 0 h0
    rw [List.getD_eq_getElem?_getD, List.getElem?_eq_getElem h0] at this
    rw [outT_first (List.getElem?_eq_getElem h0)]
    have := dg_two (x := xs[0]) (by simpa using this.2)
    omega
  | k + 2, hk => by
    have ih := outT_size hv (k + 1) (by omega)
    have h0 : k + 1 < xs.length := by rw [vvOk_len hv]; omega
    have := ((vvOk_eq xs).1 hv).2 (k + 1) h0
    rw [List.getD_eq_getElem?_getD, List.getElem?_eq_getElem h0] at this
    have h2 := dg_two (x := xs[k + 1]) (by simpa using this.2)
    rw [outT_succ (List.getElem?_eq_getElem h0), ByteArray.size_append, ByteArray.size_append]
    have e : (⟨#[46]⟩ : ByteArray).size = 1 := rfl
    omega
/-- What VvText says. -/
def textV (xs : List Int) : ByteArray := if vvOk xs then outT xs 3 else ⟨#[]⟩
theorem textV_yes {xs : List Int} (h : vvOk xs = true) : textV xs = outT xs 3 := by unfold textV; rw [if_pos h]
theorem textV_no {xs : List Int} (h : vvOk xs = false) : textV xs = ⟨#[]⟩ := by unfold textV; rw [if_neg (by rw [h]; exact Bool.false_ne_true)]

/-- A count out of three that are ok. -/
theorem vv_nat {xs : List Int} (hv : vvOk xs = true) {k : Nat} {x : Int} (hk : k < 3) (hx : xs.getD k 0 = x) : ∃ i : Nat, x = (i : Int) ∧ i ≤ 30 ∧ xs[k]? = some (i : Int) := by
  have h := vvOk_at hv hk
  rw [hx] at h
  refine ⟨x.toNat, by omega, by omega, ?_⟩
  have h3 := vvOk_len hv
  rw [List.getElem?_eq_getElem (by omega)]
  rw [List.getD_eq_getElem?_getD, List.getElem?_eq_getElem (by omega)] at hx
  simp at hx
  rw [hx]
  congr 1
  omega

set_option maxRecDepth 100000 in
set_option maxHeartbeats 1600000 in
theorem l1Text_any (A : Option Addr) (n c : Nat) (xs : List Int) (w : World) (h : Has w A n xs) (hv : vvOk xs = true) :
    Calls Tryd.prog 48 #[.slice A n c] w fun e w' => e = .returned (.string (outT xs 3)) ∧ Below w.heap.size w w' := by
  have n3 : n = 3 := h.len.symm.trans (vvOk_len hv)
  subst n3
  have H := Lib.hid h
  have HV := Lib.hid hv
  clear h hv
  go_enter Tryd.func48, Tryd.ntmps48
  go_wp2
  go_loopw [3, 4] (fun o i wr => ∃ k : Nat, k ≤ 3 ∧ i = .int .i64 k ∧ o = .string (outT xs k) ∧ Hid (Below w.heap.size w wr)) (fun _ i _ => 3 - (intOf i).toNat)
  case atStart => exact ⟨0, Nat.zero_le _, rfl, by rw [outT_zero], Below.refl _ _⟩
  case round =>
    obtain ⟨k, hk, rfl, rfl, HB⟩ := hrel
    by_cases hlt : k < 3
    · obtain ⟨b, off, x, rfl, _, hbl, c0, hx⟩ := H.out.at_ hlt
      obtain ⟨i, rfl, hi, hxk⟩ := vv_nat HV.out hlt hx.out
      have q0 := cell_upC HB.out c0
      have hsz := outT_size HV.out k hk
      have hd := dg_size (i := i) (by omega)
      match k with
      | 0 =>
        rw [Nat.add_zero] at q0
        have HE := Lib.hid (outT_first hxk)
        rw [outT_zero]
        clear c0 hx hxk hsz
        have p1 : ¬ 9223372036854775807 < (dg i).size := by omega
        go_wp2_with fail
        refine (l6Dec_any i (by omega) _).mono ?_
        rintro e w2 ⟨rfl, hb⟩
        have B2 := Lib.hid (HB.out.trans (hb.mono HB.out.size))
        clear hb q0
        go_wp2
        go_roundw
        case rel => exact ⟨1, by omega, by go_num, by rw [HE.out]; first | rfl | (apply congrArg; apply ByteArray.ext; simp), B2.out⟩
        case measure => simp [intOf]
      | k + 1 =>
        have HE := Lib.hid (outT_succ hxk)
        obtain ⟨o, ho⟩ : ∃ o, outT xs (k + 1) = o := ⟨_, rfl⟩
        rw [ho] at hsz ⊢
        have HO := Lib.hid ho
        clear c0 hx hxk ho
        have p1 : ¬ 9223372036854775807 < o.size + 1 := by omega
        have p2 : ¬ 9223372036854775807 < o.size + 1 + (dg i).size := by omega
        have p3 : ¬ 9223372036854775807 < (o ++ ⟨#[46]⟩).size + (dg i).size := by
          rw [ByteArray.size_append]
          have e : (⟨#[46]⟩ : ByteArray).size = 1 := rfl
          omega
        have p4 : (0 : Int) < (k : Int) + 1 := by omega
        go_wp2_with fail
        refine (l6Dec_any i (by omega) _).mono ?_
        rintro e w2 ⟨rfl, hb⟩
        have B2 := Lib.hid (HB.out.trans (hb.mono HB.out.size))
        clear hb q0
        go_wp2
        go_roundw
        case rel => exact ⟨k + 1 + 1, by omega, by go_num, by rw [HE.out, HO.out]; rfl, B2.out⟩
        case measure => simp [intOf]; omega
    · obtain rfl : k = 3 := by omega
      go_wp2
      go_ret
      exact ⟨rfl, HB.out⟩

set_option maxRecDepth 100000 in
theorem sVvText_any (A : Option Addr) (n c : Nat) (xs : List Int) (w : World) (h : Has w A n xs) (hn : n ≤ maxLen) :
    Calls Tryd.prog 14 #[.slice A n c] w fun e w' => e = .returned (.string (textV xs)) ∧ Below w.heap.size w w' := by
  have H := Lib.hid h
  clear h
  by_cases k1 : vvOk xs = true
  · go_enter Tryd.func14, Tryd.ntmps14
    go_wp2_with fail
    refine (sVvOk_h H.out hn).mono ?_
    rintro e w1 ⟨rfl, hb⟩
    rw [k1]
    have B1 := Lib.hid hb
    have H1 := Lib.hid (H.out.step hb)
    clear hb
    go_wp2_with fail
    refine (l1Text_any A n c xs _ H1.out k1).mono ?_
    rintro e w2 ⟨rfl, hb⟩
    have B2 := Lib.hid (B1.out.trans (hb.mono B1.out.size))
    clear hb
    go_wp2
    go_ret
    exact ⟨by rw [textV_yes k1]; rfl, B2.out⟩
  · have k1' : vvOk xs = false := by simpa using k1
    clear k1
    go_enter Tryd.func14, Tryd.ntmps14
    go_wp2_with fail
    refine (sVvOk_h H.out hn).mono ?_
    rintro e w1 ⟨rfl, hb⟩
    rw [k1']
    have B1 := Lib.hid hb
    clear hb
    go_wp2
    go_ret
    exact ⟨by rw [textV_no k1']; rfl, B1.out⟩

/-! ## The program's -/
theorem infoS : (Tryd.prog.info? 9).map (fun i => (i.zero, i.size, i.bytes)) = some (some (.string ⟨#[]⟩), 1, 16) := by kernel_rfl
theorem cell_one_str (w : World) (t : ByteArray) : ∀ j u, [Value.string t][j]? = some u → (w.alloc (.cells #[.string t] 9)).cell? ((⟨w.heap.size, 0, none⟩ : Addr).add j) = some u := by
  intro j u hj
  have hh := heap_alloc_new w (.cells #[.string t] 9)
  generalize w.alloc (.cells #[.string t] 9) = W at hh ⊢
  match j, hj with
  | 0, hj => simp at hj; subst hj; simp [World.cell?, hh, Addr.add]
  | j + 1, hj => simp at hj
/-- One text more, behind a row that the call has made. -/
theorem app_str {ops : Array Oper} {rest : List Oper} {o : Oper} {a : Act} {Q : Exit → Act → World → Prop} (W : World) (hgd : o.guard = none) (s x : Operand)
    (ho : o.op = .call { callee := .builtin .append, args := #[s, x], argTypes := #[46, 46] }) (w0 : World) (base : Nat) (hbase : base ≤ w0.heap.size) (g n cap : Nat) (ts : List ByteArray) (hs : a.eval s = .slice (some ⟨g, 0, none⟩) n cap)
    (hown : w0.ownsRow base 9 1 (.slice (some ⟨g, 0, none⟩) n cap) n (ts.map Value.string)) (hn : n ≤ 2000000) (t : ByteArray) (H : Nat) (hH : w0.heap.size = H) (hx : a.eval x = .slice (some ⟨H, 0, none⟩) 1 1)
    (hW : W = w0.alloc (.cells #[.string t] 9))
    (h : ∀ g' cap' w', w'.ownsRow base 9 1 (.slice (some ⟨g', 0, none⟩) (n + 1) cap') (n + 1) ((ts ++ [t]).map Value.string) → Below base w0 w' → w0.heap.size ≤ w'.heap.size → wpList Tryd.prog ops Q rest (a.put o.dst (.slice (some ⟨g', 0, none⟩) (n + 1) cap')) w') :
    wpList Tryd.prog ops Q (o :: rest) a W := by
  subst hW
  obtain ⟨i0, hi0, hz0, hz1, hz2⟩ := info_parts infoS
  subst hH
  refine wpList_append_lies _ hgd s x 46 ho base 9 i0 _ 1 16 Tryd.underlying46 hi0 hz0 hz1 hz2 rfl (by omega) _ n _ hs (hown.alloc _) ⟨w0.heap.size, 0, none⟩ 1 1 [.string t] hx rfl (cell_one_str _ _) (fun u hu => by simp at hu; subst hu; rfl) (by omega) (by unfold maxLen; omega) (by omega) (by simp; omega) (w0.heap.size + 1) (by simp) (fun g' cap' w' hown1 hg1 _ _ => ?_)
  exact h g' cap' w' (by rw [List.map_append]; exact hown1) (((Below.refl base w0).alloc hbase _).grown hg1 (by simp; omega) (fun g hg => (hown.lt g hg).1)) (by have := hg1.size; simp at this; omega)

theorem own_capS {w : World} {base : Nat} {e : TypeId} {size n m c : Nat} {A : Addr} {xs : List Value} (h : w.ownsRow base e size (.slice (some A) m c) n xs) : n ≤ c := by
  rcases h.2 with ⟨h2, h3⟩ | ⟨g, cap, cur, hv, _, _, hc, _⟩
  · cases h2
  · injection hv with _ _ e3
    rw [e3]; exact hc
theorem itoa_any (i : Nat) (hi : i < 100) (w : World) : Calls Tryd.prog 73 #[.int .i64 i] w fun e w' => e = .returned (.string (dg i)) ∧ w' = w := Tryd.strconv_Itoa_small i hi w
def wordsT (xs : List Int) (k : Nat) : List ByteArray := (xs.take k).map fun x => dg x.toNat
theorem wordsT_succ {xs : List Int} {k i : Nat} (h : xs[k]? = some (i : Int)) : wordsT xs (k + 1) = wordsT xs k ++ [dg i] := by
  obtain ⟨hk, e⟩ := List.getElem?_eq_some_iff.1 h
  unfold wordsT
  rw [List.take_succ_eq_append_getElem hk, e]
  simp
theorem join_words (xs : List Int) (k : Nat) : (⟨(Lib.join ((wordsT xs k).map (·.data.toList)) [46]).toArray⟩ : ByteArray) = outT xs k := by
  unfold wordsT outT
  rw [List.map_map]
  rfl

set_option maxRecDepth 100000 in
set_option maxHeartbeats 1600000 in
theorem vvText_any (A : Option Addr) (n c : Nat) (xs : List Int) (w : World) (h : Has w A n xs) (hv : vvOk xs = true) :
    Calls Tryd.prog 50 #[.slice A n c] w fun e w' => e = .returned (.string (outT xs 3)) ∧ Below w.heap.size w w' := by
  have n3 : n = 3 := h.len.symm.trans (vvOk_len hv)
  subst n3
  have H := Lib.hid h
  have HV := Lib.hid hv
  clear h hv
  go_enter Tryd.func50, Tryd.ntmps50
  go_wp2
  go_loopw [3, 9] (fun v i wr => ∃ (k gg cc : Nat), k ≤ 3 ∧ i = .int .i64 k ∧ v = .slice (some ⟨gg, 0, none⟩) k cc ∧ Hid (Below w.heap.size w wr) ∧ Hid (wr.ownsRow w.heap.size 9 1 (.slice (some ⟨gg, 0, none⟩) k cc) k ((wordsT xs k).map Value.string))) (fun _ i _ => 3 - (intOf i).toNat)
  case atStart => exact ⟨0, _, 0, Nat.zero_le _, rfl, rfl, bel_alloc _ _, World.ownsRow_lit w #[] 0 (Nat.le_refl _) (by unfold maxLen; omega) rfl⟩
  case round =>
    obtain ⟨k, gg, cc, hk, rfl, rfl, HB, HO⟩ := hrel
    by_cases hlt : k < 3
    · obtain ⟨b, off, x, rfl, _, hbl, c0, hx⟩ := H.out.at_ hlt
      obtain ⟨i, rfl, hi, hxk⟩ := vv_nat HV.out hlt hx.out
      have q0 := cell_upC HB.out c0
      have HW := Lib.hid (wordsT_succ hxk)
      have hsz := HB.out.size
      clear c0 hx hxk
      go_wp2_with fail
      refine (itoa_any i (by omega) _).mono ?_
      rintro e w2 ⟨rfl, rfl⟩
      go_wp2_with (at_builtin; go_must (refine app_str _ rfl (.tmp 13) (.tmp 16) rfl w2 w.heap.size hsz gg k cc (wordsT xs k) rfl HO.out (by omega) (dg i) _ rfl rfl rfl ?_; intro g8 c8 w8 ho8 hb8 hs8))
      have B8 := Lib.hid (HB.out.trans hb8)
      have O8 := Lib.hid ho8
      clear ho8 hb8 q0
      go_wp2
      go_roundw
      case rel => exact ⟨k + 1, g8, c8, by omega, by go_num, by simp, B8.out, by rw [HW.out]; exact O8.out⟩
      case measure => simp [intOf]; omega
    · obtain rfl : k = 3 := by omega
      have hgl := HO.out.lt gg rfl
      have hwl : (wordsT xs 3).length = 3 := by unfold wordsT; rw [List.length_map, List.length_take, vvOk_len HV.out]; rfl
      have hcap : 3 ≤ cc := own_capS HO.out
      have hcells : ∀ (j : Nat) x, (wordsT xs 3)[j]? = some x → wr.cell? ⟨gg, 0 + j, none⟩ = some (.string x) := fun j x hx => by
        have hj : j < 3 := by rw [← hwl]; exact (List.getElem?_eq_some_iff.1 hx).1
        rw [Nat.zero_add, HO.out.cellAt j (by omega), List.getElem?_map, hx]; rfl
      have hsz3 := outT_size HV.out 3 (by omega)
      have hj := Tryd.strings_Join gg 0 cc (wordsT xs 3) ⟨#[46]⟩ wr hcells hgl.2 (by omega) (by omega) (by
        have e : (Lib.join ((wordsT xs 3).map (·.data.toList)) [46]).length = (outT xs 3).size := by rw [← join_words]; rfl
        show (Lib.join ((wordsT xs 3).map (·.data.toList)) [46]).length ≤ 140737488355328
        omega)
      rw [hwl] at hj
      have HJ := Lib.hid hj
      clear hj hcells hwl
      go_wp2_with fail
      refine HJ.out.mono ?_
      rintro e w2 ⟨rfl, hb⟩
      have B2 := Lib.hid (HB.out.trans (hb.mono HB.out.size))
      clear hb HJ
      go_wp2
      go_ret
      exact ⟨by rw [← join_words]; rfl, B2.out⟩

set_option maxRecDepth 100000 in
theorem iVvText_any (A : Option Addr) (n c : Nat) (xs : List Int) (w : World) (h : Has w A n xs) (hn : n ≤ maxLen) :
    Calls Tryd.prog 16 #[.slice A n c] w fun e w' => e = .returned (.string (textV xs)) ∧ Below w.heap.size w w' := by
  have H := Lib.hid h
  clear h
  by_cases k1 : vvOk xs = true
  · go_enter Tryd.func16, Tryd.ntmps16
    go_wp2_with fail
    refine (isVv_any A n c xs _ _ _ H.out hn).mono ?_
    rintro e w1 ⟨rfl, rfl⟩
    rw [k1]
    go_wp2_with fail
    refine (vvText_any A n c xs _ H.out k1).mono ?_
    rintro e w2 ⟨rfl, hb⟩
    have B2 := Lib.hid hb
    clear hb
    go_wp2
    go_ret
    exact ⟨by rw [textV_yes k1]; rfl, B2.out⟩
  · have k1' : vvOk xs = false := by simpa using k1
    clear k1
    go_enter Tryd.func16, Tryd.ntmps16
    go_wp2_with fail
    refine (isVv_any A n c xs _ _ _ H.out hn).mono ?_
    rintro e w1 ⟨rfl, rfl⟩
    rw [k1']
    go_wp2
    go_ret
    exact ⟨by rw [textV_no k1']; rfl, Below.refl _ _⟩

end Go.Proofs.YtkcoeeekeddgaaaDoor
