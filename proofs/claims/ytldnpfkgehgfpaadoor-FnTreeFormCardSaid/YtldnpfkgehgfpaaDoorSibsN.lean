
/-
  Contract of l2Merge.
-/
import Derived.Test.YtldnpfkgehgfpaaDoorSibsM
namespace Go.Proofs.YtldnpfkgehgfpaaDoor
open Go.RowKit Go.PlainAid

def allK (a b : List Kv) : List Kv := b.foldl (fun acc s => putK s acc) a
theorem sbs_allK : ∀ (b a : List Kv), sbs (allK a b) = allL (sbs a) (sbs b)
  | [], a => rfl
  | s :: r, a => by
    show sbs (allK (putK s a) r) = allL (putL s.s (sbs a)) (sbs r)
    rw [sbs_allK r, sbs_putK]
theorem allK_succ {a b : List Kv} {k : Nat} {x : Kv} (hx : b[k]? = some x) : allK a (b.take (k + 1)) = putK x (allK a (b.take k)) := by
  obtain ⟨hk, rfl⟩ := List.getElem?_eq_some_iff.1 hx
  unfold allK
  rw [List.take_succ_eq_append_getElem hk, List.foldl_append]
  rfl
theorem mem_allK {x : Kv} : ∀ {b a : List Kv}, x ∈ allK a b → x ∈ a ∨ x ∈ b
  | [], a, h => .inl h
  | s :: r, a, h => by
    rcases mem_allK (b := r) (a := putK s a) h with h | h
    · rcases mem_putK h with h | h
      · exact .inr (by simp [h])
      · exact .inl h
    · exact .inr (by simp [h])
theorem len_allK : ∀ (b a : List Kv), (allK a b).length ≤ a.length + b.length
  | [], a => by simp [allK]
  | s :: r, a => by
    have h1 := len_allK r (putK s a)
    have h2 := len_putK s a
    have e : allK a (s :: r) = allK (putK s a) r := rfl
    rw [e]; simp; omega
def mTo (ss : List Sb) (k : Nat) : List Sb := (ss.take k).filter fun x => !isKnown x ss
theorem mTo_succ {ss : List Sb} {k : Nat} {x : Sb} (hx : ss[k]? = some x) : mTo ss (k + 1) = mTo ss k ++ (if isKnown x ss then [] else [x]) := by
  obtain ⟨hk, rfl⟩ := List.getElem?_eq_some_iff.1 hx
  unfold mTo
  rw [List.take_succ_eq_append_getElem hk, List.filter_append]
  congr 1
  cases h : isKnown ss[k] ss <;> simp [h]
theorem mTo_all {a b : List Sb} {k : Nat} (h : (allL a b).length = k) : mTo (allL a b) k = mergeL a b := by
  unfold mTo mergeL
  rw [List.take_of_length_le (by omega)]
theorem mTo_len (ss : List Sb) (k : Nat) : (mTo ss k).length ≤ k := by
  have h1 := List.length_filter_le (fun x => !isKnown x ss) (ss.take k)
  have h2 : (ss.take k).length ≤ k := by simp; omega
  unfold mTo
  omega
def knTo (x : Sb) (ss : List Sb) (k : Nat) : Bool := (ss.take k).any (known x)
theorem knTo_succ {x : Sb} {ss : List Sb} {k : Nat} {y : Sb} (hy : ss[k]? = some y) : knTo x ss (k + 1) = (knTo x ss k || known x y) := by
  obtain ⟨hk, rfl⟩ := List.getElem?_eq_some_iff.1 hy
  unfold knTo
  rw [List.take_succ_eq_append_getElem hk, List.any_append]
  simp
theorem knTo_all {x : Sb} {ss : List Sb} {k : Nat} (h : ss.length = k) : knTo x ss k = isKnown x ss := by unfold knTo isKnown; rw [List.take_of_length_le (by omega)]
/-- A row that a call has made, of versions that lie somewhere. -/
theorem hasS_row {w : World} {base n : Nat} {A : Option Addr} {c : Nat} {ks : List Kv} (h : w.ownsRow base 43 3 (.slice A n c) n (flat ks)) (hk : ∀ k ∈ ks, k.Ok w 0 w.heap.size) : HasS w A n ks :=
  ⟨Row.own h (Nat.zero_le _) (Nat.le_refl _), hk⟩

theorem Kv.Own.keepB {w w' : World} {lo hi : Nat} {k : Kv} (h : k.Own w lo hi) (hb : ∀ q, k.blk = some q → w'.heap[q]? = w.heap[q]?) : k.Own w' lo hi := ⟨⟨row_keep h.1.1 hb, h.1.2⟩, h.2⟩
theorem Kv.Own.lt {w : World} {lo hi : Nat} {k : Kv} (h : k.Own w lo hi) {q : Nat} (hq : k.blk = some q) : lo ≤ q ∧ q < hi := ⟨(h.1.1.lt q hq).1, h.1.2 q hq⟩

set_option maxRecDepth 100000 in
set_option linter.unusedSimpArgs false in
set_option maxHeartbeats 6400000 in
theorem l2Merge_any (a0 : Addr) (B : Option Addr) (n c m d : Nat) (ka kb : List Kv) (w : World) (h1 : HasS w (some a0) n ka) (h2 : HasS w B m kb) (hn : n ≤ 1000) (hm : m ≤ 1000) (ha : ∀ x ∈ sbs ka, vvOk x.vv = true) (hb : ∀ x ∈ sbs kb, vvOk x.vv = true) :
    Calls Tryd.prog 19 #[.slice (some a0) n c, .slice B m d] w fun e w' => ∃ g' c' lr, e = .returned (.slice (some ⟨g', 0, none⟩) lr.length c') ∧ Below w.heap.size w w' ∧ w'.ownsRow w.heap.size 43 3 (.slice (some ⟨g', 0, none⟩) lr.length c') lr.length (flat lr) ∧ (∀ k ∈ lr, k.Own w' w.heap.size w'.heap.size) ∧ (∀ k ∈ lr, k.blk ≠ some g') ∧ sbs lr = mergeL (sbs ka) (sbs kb) := by
  obtain ⟨i0, hi0, hz0, hz1, hz2⟩ := info_parts infoSib
  obtain ⟨j0, hj0, hy0, hy1, hy2⟩ := info_parts infoInt
  have G2 := Lib.hid hz2
  have J2 := Lib.hid hy2
  have HA := Lib.hid h1
  have HB := Lib.hid h2
  have LA := Lib.hid h1.len
  have LB := Lib.hid h2.len
  have KA := Lib.hid ha
  have KB := Lib.hid hb
  have NEWS : Hid (∀ j u, (flat ka)[j]? = some u → (w.alloc (.cells #[] 43)).cell? (a0.add j) = some u) := Lib.hid (by
    intro j u hu
    rcases Nat.eq_zero_or_pos n with h0 | h0
    · have : ka = [] := List.eq_nil_of_length_eq_zero (by rw [h1.len, h0])
      subst this
      simp [flat] at hu
    · obtain ⟨b, off, e, _, hbl, hc⟩ := h1.1.2 h0
      injection e with e
      subst e
      have hadd : (⟨b, off, none⟩ : Addr).add j = ⟨b, off + j, none⟩ := by unfold Addr.add; split <;> simp_all
      rw [hadd]
      exact (World.cell?_alloc_lt w _ ⟨b, off + j, none⟩ hbl).trans (hc j u hu))
  have ONE : Hid (∀ u ∈ flat ka, u.oneCell' = true) := Lib.hid (by
    intro u hu
    obtain ⟨k, _, hk⟩ := List.mem_flatMap.1 hu
    simp [Kv.enc] at hk
    rcases hk with rfl | rfl | rfl <;> rfl)
  have E0 : Hid ((w.alloc (.cells #[] 43)).ownsRow w.heap.size 43 3 (.slice (some ⟨w.heap.size, 0, none⟩) 0 0) 0 []) := Lib.hid (World.ownsRow_lit w #[] 0 (Nat.le_refl _) (by unfold maxLen; omega) rfl)
  clear h1 h2 ha hb hz2 hy2
  go_enter Tryd.func19, Tryd.ntmps19
  go_wp2_with (at_builtin; go_must (refine wpList_append_own _ rfl (.tmp 12) (.tmp 13) 27 rfl w.heap.size 43 i0 _ 3 48 Tryd.underlying27 hi0 hz0 hz1 G2.out rfl (by decide) _ 0 [] rfl E0.out a0 n c (flat ka) rfl (by rw [flat_len, LA.out]) NEWS.out ONE.out (by unfold maxLen; omega) (by omega) (by simp) ?_; intro v1 w1 ho hg _))
  have B1 := Lib.hid (((Below.refl w.heap.size w).alloc (Nat.le_refl _) _).grown hg (by simp) (fun g hg => (E0.out.lt g hg).1))
  have O1 : Hid (w1.ownsRow w.heap.size 43 3 v1 n (flat ka)) := Lib.hid (by simpa using ho)
  clear ho hg NEWS ONE E0
  go_wp2
  go_loopw [5, 6] (fun v i wr => ∃ k : Nat, k ≤ m ∧ i = .int .i64 k ∧ Hid (Below w.heap.size w wr) ∧ Hid (wr.ownsRow w.heap.size 43 3 v (allK ka (kb.take k)).length (flat (allK ka (kb.take k))))) (fun _ i _ => m - (intOf i).toNat)
  case atStart => exact ⟨0, Nat.zero_le _, rfl, B1.out, by rw [List.take_zero]; show _; rw [show allK ka [] = ka from rfl, LA.out]; exact O1.out⟩
  case round =>
    clear B1 O1
    obtain ⟨k, hk, rfl, HW, HO⟩ := hrel
    have hl := len_allK (kb.take k) ka
    have hl2 : (kb.take k).length ≤ k := by simp; omega
    have hl3 := LA.out
    have ALLOK : Hid (∀ q wq, Below w.heap.size w wq → ∀ x ∈ allK ka (kb.take q), x.Ok wq 0 wq.heap.size) := Lib.hid (fun q wq hbq x hx => by
      rcases mem_allK hx with h | h
      · exact (HA.out.2 x h).step hbq
      · exact (HB.out.2 x (List.mem_of_mem_take h)).step hbq)
    have VOK : Hid (∀ q, ∀ x ∈ sbs (allK ka (kb.take q)), vvOk x.vv = true) := Lib.hid (fun q x hx => by
      obtain ⟨y, hy, rfl⟩ := List.mem_map.1 hx
      rcases mem_allK hy with h | h
      · exact KA.out _ (List.mem_map.2 ⟨y, h, rfl⟩)
      · exact KB.out _ (List.mem_map.2 ⟨y, List.mem_of_mem_take h, rfl⟩))
    by_cases hlt : k < m
    · obtain ⟨b, off, A', n', c', vv, g, t, rfl, hbl, c0, c1, c2, I, hn', ht', hx⟩ := HB.out.at_ hlt
      have q0 := cell_upC HW.out c0
      have q1 := cell_upC HW.out c1
      have q2 := cell_upC HW.out c2
      have IR := Lib.hid (I.step HW.out)
      have hov := KB.out _ (List.mem_of_getElem? (sbs_at hx.out))
      have HOV := Lib.hid hov
      obtain ⟨A5, c5, rfl⟩ := own_valS HO.out
      have HS := Lib.hid (hasS_row HO.out (ALLOK.out k wr HW.out))
      have hsz := HW.out.size
      clear c0 c1 c2 I hov
      go_wp2_with fail
      refine (l2Put_any A5 A' _ c5 n' c' (allK ka (kb.take k)) vv g t _ HS.out IR.out (by omega) (VOK.out k) HOV.out).mono ?_
      rintro e w2 ⟨A6, c6, rfl, hb, ho⟩
      have W2 := Lib.hid (HW.out.trans (hb.mono hsz))
      have O2 := Lib.hid (row_mono ho hsz)
      clear hb ho q0 q1 q2
      go_wp2
      go_roundw
      case rel => exact ⟨k + 1, by omega, by go_num, W2.out, by rw [allK_succ hx.out]; exact O2.out⟩
      case measure => simp [intOf]; omega
    · obtain ⟨la, hla⟩ : ∃ la, la = allK ka (kb.take k) := ⟨_, rfl⟩
      have hk2 : kb.take k = kb := List.take_of_length_le (by rw [LB.out]; omega)
      have SL : Hid (sbs la = allL (sbs ka) (sbs kb)) := Lib.hid (by rw [hla, hk2, sbs_allK])
      have OKA := ALLOK.out k wr HW.out
      have VKA := VOK.out k
      have HO' := HO.out
      rw [← hla] at OKA VKA HO' hl
      obtain ⟨N, hN⟩ : ∃ N, N = la.length := ⟨_, rfl⟩
      have LN := Lib.hid hN.symm
      rw [← hN] at HO' hl
      have hN2 : N ≤ 2000 := by omega
      clear hN
      obtain ⟨A5, c5, hv5⟩ := own_valS HO'
      subst hv5
      have HS := Lib.hid (hasS_row HO' OKA)
      have VK := Lib.hid VKA
      have hsz := HW.out.size
      rename World => wa
      clear HO HO' OKA VKA hla ALLOK VOK hk2
      go_wp2
      go_loopw [7, 8] (fun v i wb => ∃ (k : Nat) (ls : List Kv) (gg cc : Nat), k ≤ N ∧ i = .int .i64 k ∧ v = .slice (some ⟨gg, 0, none⟩) ls.length cc ∧ Hid (sbs ls = mTo (sbs la) k) ∧ Hid (Below wa.heap.size wa wb) ∧ Hid (wb.ownsRow wa.heap.size 43 3 v ls.length (flat ls)) ∧ Hid (∀ x ∈ ls, x.Own wb wa.heap.size wb.heap.size) ∧ Hid (∀ x ∈ ls, x.blk ≠ some gg)) (fun _ i _ => N - (intOf i).toNat)
      case atStart => exact ⟨0, [], _, 0, Nat.zero_le _, rfl, rfl, rfl, bel_alloc _ _, World.ownsRow_lit wa #[] 0 (Nat.le_refl _) (by unfold maxLen; omega) rfl, (fun x hx => by cases hx), (fun x hx => by cases hx)⟩
      case round =>
        rename World => wb
        obtain ⟨k, ls, gg, cc, hk, rfl, rfl, HL, HB2, HO2, HOW, HOF⟩ := hrel
        have hll : ls.length ≤ k := by
          have h1 := mTo_len (sbs la) k
          have h2 := congrArg List.length HL.out
          rw [sbs_len] at h2
          omega
        have hsz2 := HB2.out.size
        by_cases hlk : k < N
        · obtain ⟨b, off, A', n', c', vv, g, t, rfl, hbl, c0, c1, c2, I, hn', ht', hx⟩ := HS.out.at_ hlk
          have C0 := Lib.hid c0
          have C1 := Lib.hid c1
          have C2 := Lib.hid c2
          have I0 := Lib.hid I
          have N3 := Lib.hid (I.len.symm.trans (vvOk_len (VK.out _ (List.mem_of_getElem? (sbs_at hx.out)))))
          have MS := Lib.hid (mTo_succ (sbs_at hx.out))
          clear c0 c1 c2 I
          go_wp2
          go_loopw [9, 10] (fun kn i wr => ∃ (j : Nat) (kb : Bool), j ≤ N ∧ i = .int .i64 j ∧ kn = .bool kb ∧ Hid (kb = knTo ⟨vv, g, t⟩ (sbs la) j) ∧ Hid (Below wb.heap.size wb wr)) (fun _ i _ => N - (intOf i).toNat)
          case atStart => exact ⟨0, false, Nat.zero_le _, rfl, rfl, rfl, Below.refl _ _⟩
          case round =>
            obtain ⟨j, kn, hj, rfl, rfl, HKN, HB3⟩ := hrel
            have HBX := Lib.hid (HB2.out.trans (HB3.out.mono hsz2))
            have hsz3 := HB3.out.size
            by_cases hlj : j < N
            · obtain ⟨b', off', A2, n2, c2, vv2, g2, t2, e, hbl', d0, d1, d2, J, hn2, ht2, hy⟩ := HS.out.at_ hlj
              simp only [Option.some.injEq, Addr.mk.injEq, and_true] at e
              obtain ⟨rfl, rfl⟩ := e
              have Q0 := Lib.hid (cell_upC HBX.out C0.out)
              have Q1 := Lib.hid (cell_upC HBX.out C1.out)
              have Q2 := Lib.hid (cell_upC HBX.out C2.out)
              have P0 := Lib.hid (cell_upC HBX.out d0)
              have P1 := Lib.hid (cell_upC HBX.out d1)
              have P2 := Lib.hid (cell_upC HBX.out d2)
              have IR := Lib.hid (I0.out.step HBX.out)
              have JR := Lib.hid (J.step HBX.out)
              have M3 := Lib.hid (J.len.symm.trans (vvOk_len (VK.out _ (List.mem_of_getElem? (sbs_at hy.out)))))
              have KS := Lib.hid (knTo_succ (x := ⟨vv, g, t⟩) (sbs_at hy.out))
              have i1 : (k : Int) < (N : Int) := by omega
              have i2 : (0 : Int) ≤ (k : Int) := by omega
              have i3 : (j : Int) < (N : Int) := by omega
              have i4 : (0 : Int) ≤ (j : Int) := by omega
              clear d0 d1 d2 J
              cases kn
              · go_wp2
                refine wp_region_held_drew (S := (fun w' => w'.cell? ⟨b, off + k * 3, none⟩ = some (.slice A' n' c') ∧ w'.cell? ⟨b, off + k * 3 + 1, none⟩ = some (.bool g) ∧ w'.cell? ⟨b, off + k * 3 + 2, none⟩ = some (.string t) ∧ w'.cell? ⟨b, off + j * 3, none⟩ = some (.slice A2 n2 c2) ∧ w'.cell? ⟨b, off + j * 3 + 1, none⟩ = some (.bool g2) ∧ w'.cell? ⟨b, off + j * 3 + 2, none⟩ = some (.string t2) ∧ Has w' A' n' vv ∧ Has w' A2 n2 vv2 ∧ wr.heap.size ≤ w'.heap.size ∧ Below wr.heap.size wr w')) (by kernel_rfl) ?_ (fun hHeld => ?_)
                · exact ⟨by exact Q0.out, by exact Q1.out, by exact Q2.out, by exact P0.out, by exact P1.out, by exact P2.out, by exact IR.out, by exact JR.out, Nat.le_refl _, (Below.refl _ _).drew⟩
                refine heldT (i := 0) (d := 40) (v := ?_) rfl rfl (by kernel_rfl) (by kernel_rfl) (by kernel_rfl) (fun _ _ _ h => h) (by kernel_rfl) ?_ (by assumption) ?_
                rotate_left
                · (intro w hSw; (try dsimp only at hSw); go_simp; try with_reducible rfl)
                simp only [Act.put, List.setIfInBounds_toArray, List.set_cons_zero, List.set_cons_succ]
                refine heldT (i := 1) (d := 41) (v := ?_) rfl rfl (by kernel_rfl) (by kernel_rfl) (by kernel_rfl) (fun _ _ _ h => h) (by kernel_rfl) ?_ (by assumption) ?_
                rotate_left
                · (intro w hSw; (try dsimp only at hSw); go_simp; try with_reducible rfl)
                simp only [Act.put, List.setIfInBounds_toArray, List.set_cons_zero, List.set_cons_succ]
                refine heldT (i := 2) (d := 42) (v := ?_) rfl rfl (by kernel_rfl) (by kernel_rfl) (by kernel_rfl) (fun _ _ _ h => h) (by kernel_rfl) ?_ (by assumption) ?_
                rotate_left
                · (intro w hSw; (try dsimp only at hSw); go_simp; try with_reducible rfl)
                simp only [Act.put, List.setIfInBounds_toArray, List.set_cons_zero, List.set_cons_succ]
                refine heldT (i := 3) (d := 43) (v := ?_) rfl rfl (by kernel_rfl) (by kernel_rfl) (by kernel_rfl) (fun _ _ _ h => h) (by kernel_rfl) ?_ (by assumption) ?_
                rotate_left
                · (intro w hSw; (try dsimp only at hSw); go_simp; try with_reducible rfl)
                simp only [Act.put, List.setIfInBounds_toArray, List.set_cons_zero, List.set_cons_succ]
                refine heldT (i := 4) (d := 44) (v := ?_) rfl rfl (by kernel_rfl) (by kernel_rfl) (by kernel_rfl) (fun _ _ _ h => h) (by kernel_rfl) ?_ (by assumption) ?_
                rotate_left
                · (intro w hSw; (try dsimp only at hSw); go_simp; try with_reducible rfl)
                simp only [Act.put, List.setIfInBounds_toArray, List.set_cons_zero, List.set_cons_succ]
                refine heldT (i := 5) (d := 45) (v := ?_) rfl rfl (by kernel_rfl) (by kernel_rfl) (by kernel_rfl) (fun _ _ _ h => h) (by kernel_rfl) ?_ (by assumption) ?_
                rotate_left
                · (intro w hSw; (try dsimp only at hSw); go_simp; try with_reducible rfl)
                simp only [Act.put, List.setIfInBounds_toArray, List.set_cons_zero, List.set_cons_succ]
                refine heldT (i := 6) (d := 46) (v := ?_) rfl rfl (by kernel_rfl) (by kernel_rfl) (by kernel_rfl) (fun _ _ _ h => h) (by kernel_rfl) ?_ (by assumption) ?_
                rotate_left
                · (intro w hSw; (try dsimp only at hSw); go_simp; try with_reducible rfl)
                simp only [Act.put, List.setIfInBounds_toArray, List.set_cons_zero, List.set_cons_succ]
                refine heldT (i := 7) (d := 47) (v := ?_) rfl rfl (by kernel_rfl) (by kernel_rfl) (by kernel_rfl) (fun _ _ _ h => h) (by kernel_rfl) ?_ (by assumption) ?_
                rotate_left
                · (intro w hSw; (try dsimp only at hSw); go_simp; try with_reducible rfl)
                simp only [Act.put, List.setIfInBounds_toArray, List.set_cons_zero, List.set_cons_succ]
                refine heldT (i := 8) (d := 48) (v := ?_) rfl rfl (by kernel_rfl) (by kernel_rfl) (by kernel_rfl) (fun _ _ _ h => h) (by kernel_rfl) ?_ (by assumption) ?_
                rotate_left
                · (intro w hSw; (try dsimp only at hSw); go_simp; try with_reducible rfl)
                simp only [Act.put, List.setIfInBounds_toArray, List.set_cons_zero, List.set_cons_succ]
                refine heldT (i := 9) (d := 49) (v := ?_) rfl rfl (by kernel_rfl) (by kernel_rfl) (by kernel_rfl) (fun _ _ _ h => h) (by kernel_rfl) ?_ (by assumption) ?_
                rotate_left
                · (intro w hSw; (try dsimp only at hSw); go_simp; try with_reducible rfl)
                simp only [Act.put, List.setIfInBounds_toArray, List.set_cons_zero, List.set_cons_succ]
                refine wpAnyH_ready (rs := [10]) (by kernel_rfl) (by simp) ?_
                refine AllReadyH.cons rfl (fun K hK => ?_) AllReadyH.nil
                go_simp
                go_at_call 23
                go_split_ands
                refine (known_any _ _ _ _ _ _ vv vv2 _ _ _ _ _ (by assumption) (by assumption) N3.out M3.out).mono ?_
                rintro e w6 ⟨rfl, hb⟩
                refine hK.out _ _ ?_ (fun hHeld => ?_)
                · go_split_ands
                  exact ⟨cell_upC hb (by assumption), cell_upC hb (by assumption), cell_upC hb (by assumption), cell_upC hb (by assumption), cell_upC hb (by assumption), cell_upC hb (by assumption), Has.step (by assumption) hb, Has.step (by assumption) hb, Nat.le_trans (by assumption) hb.size, Below.trans (by assumption) (hb.mono (by assumption))⟩
                clear hK K
                try simp only [Act.put, List.setIfInBounds_toArray, List.set_cons_zero, List.set_cons_succ]
                refine heldT (i := 11) (d := 51) (v := ?_) rfl rfl (by kernel_rfl) (by kernel_rfl) (by kernel_rfl) (fun _ _ _ h => h) (by kernel_rfl) ?_ (by assumption) ?_
                rotate_left
                · (intro w hSw; (try dsimp only at hSw); go_simp; try with_reducible rfl)
                simp only [Act.put, List.setIfInBounds_toArray, List.set_cons_zero, List.set_cons_succ]
                refine heldT (i := 12) (d := 9) (v := ?_) rfl rfl (by kernel_rfl) (by kernel_rfl) (by kernel_rfl) (fun _ _ _ h => h) (by kernel_rfl) ?_ (by assumption) ?_
                rotate_left
                · (intro w hSw; (try dsimp only at hSw); go_simp; try with_reducible rfl)
                simp only [Act.put, List.setIfInBounds_toArray, List.set_cons_zero, List.set_cons_succ]
                refine wpAnyH_done (by kernel_rfl) ?_ _
                go_split_ands
                go_wp2
                go_roundw
                case rel =>
                  refine ⟨j + 1, _, by omega, by go_num, rfl, ?_, HB3.out.trans (Below.mono (by assumption) hsz3)⟩
                  show _ = knTo _ _ (j + 1)
                  rw [KS.out, ← HKN.out]; rfl
                case measure => simp [intOf]; omega
              · go_wp2
                refine wp_region_held_drew (S := (fun w' => w'.cell? ⟨b, off + k * 3, none⟩ = some (.slice A' n' c') ∧ w'.cell? ⟨b, off + k * 3 + 1, none⟩ = some (.bool g) ∧ w'.cell? ⟨b, off + k * 3 + 2, none⟩ = some (.string t) ∧ w'.cell? ⟨b, off + j * 3, none⟩ = some (.slice A2 n2 c2) ∧ w'.cell? ⟨b, off + j * 3 + 1, none⟩ = some (.bool g2) ∧ w'.cell? ⟨b, off + j * 3 + 2, none⟩ = some (.string t2) ∧ Has w' A' n' vv ∧ Has w' A2 n2 vv2 ∧ wr.heap.size ≤ w'.heap.size ∧ Below wr.heap.size wr w')) (by kernel_rfl) ?_ (fun hHeld => ?_)
                · exact ⟨by exact Q0.out, by exact Q1.out, by exact Q2.out, by exact P0.out, by exact P1.out, by exact P2.out, by exact IR.out, by exact JR.out, Nat.le_refl _, (Below.refl _ _).drew⟩
                refine heldT (i := 0) (d := 40) (v := ?_) rfl rfl (by kernel_rfl) (by kernel_rfl) (by kernel_rfl) (fun _ _ _ h => h) (by kernel_rfl) ?_ (by assumption) ?_
                rotate_left
                · (intro w hSw; (try dsimp only at hSw); go_simp; try with_reducible rfl)
                simp only [Act.put, List.setIfInBounds_toArray, List.set_cons_zero, List.set_cons_succ]
                refine heldT (i := 1) (d := 41) (v := ?_) rfl rfl (by kernel_rfl) (by kernel_rfl) (by kernel_rfl) (fun _ _ _ h => h) (by kernel_rfl) ?_ (by assumption) ?_
                rotate_left
                · (intro w hSw; (try dsimp only at hSw); go_simp; try with_reducible rfl)
                simp only [Act.put, List.setIfInBounds_toArray, List.set_cons_zero, List.set_cons_succ]
                refine heldU (i := 2) (d := 42) rfl rfl (by kernel_rfl) (by kernel_rfl) (by kernel_rfl) (fun _ _ _ h => h) (by kernel_rfl) (by assumption) ?_
                simp only [Act.put, List.setIfInBounds_toArray, List.set_cons_zero, List.set_cons_succ]
                refine heldU (i := 3) (d := 43) rfl rfl (by kernel_rfl) (by kernel_rfl) (by kernel_rfl) (fun _ _ _ h => h) (by kernel_rfl) (by assumption) ?_
                simp only [Act.put, List.setIfInBounds_toArray, List.set_cons_zero, List.set_cons_succ]
                refine heldU (i := 4) (d := 44) rfl rfl (by kernel_rfl) (by kernel_rfl) (by kernel_rfl) (fun _ _ _ h => h) (by kernel_rfl) (by assumption) ?_
                simp only [Act.put, List.setIfInBounds_toArray, List.set_cons_zero, List.set_cons_succ]
                refine heldU (i := 5) (d := 45) rfl rfl (by kernel_rfl) (by kernel_rfl) (by kernel_rfl) (fun _ _ _ h => h) (by kernel_rfl) (by assumption) ?_
                simp only [Act.put, List.setIfInBounds_toArray, List.set_cons_zero, List.set_cons_succ]
                refine heldU (i := 6) (d := 46) rfl rfl (by kernel_rfl) (by kernel_rfl) (by kernel_rfl) (fun _ _ _ h => h) (by kernel_rfl) (by assumption) ?_
                simp only [Act.put, List.setIfInBounds_toArray, List.set_cons_zero, List.set_cons_succ]
                refine heldU (i := 7) (d := 47) rfl rfl (by kernel_rfl) (by kernel_rfl) (by kernel_rfl) (fun _ _ _ h => h) (by kernel_rfl) (by assumption) ?_
                simp only [Act.put, List.setIfInBounds_toArray, List.set_cons_zero, List.set_cons_succ]
                refine heldU (i := 8) (d := 48) rfl rfl (by kernel_rfl) (by kernel_rfl) (by kernel_rfl) (fun _ _ _ h => h) (by kernel_rfl) (by assumption) ?_
                simp only [Act.put, List.setIfInBounds_toArray, List.set_cons_zero, List.set_cons_succ]
                refine heldU (i := 9) (d := 49) rfl rfl (by kernel_rfl) (by kernel_rfl) (by kernel_rfl) (fun _ _ _ h => h) (by kernel_rfl) (by assumption) ?_
                simp only [Act.put, List.setIfInBounds_toArray, List.set_cons_zero, List.set_cons_succ]
                refine heldU (i := 10) (d := 50) rfl rfl (by kernel_rfl) (by kernel_rfl) (by kernel_rfl) (fun _ _ _ h => h) (by kernel_rfl) (by assumption) ?_
                simp only [Act.put, List.setIfInBounds_toArray, List.set_cons_zero, List.set_cons_succ]
                refine heldT (i := 11) (d := 51) (v := ?_) rfl rfl (by kernel_rfl) (by kernel_rfl) (by kernel_rfl) (fun _ _ _ h => h) (by kernel_rfl) ?_ (by assumption) ?_
                rotate_left
                · (intro w hSw; (try dsimp only at hSw); go_simp; try with_reducible rfl)
                simp only [Act.put, List.setIfInBounds_toArray, List.set_cons_zero, List.set_cons_succ]
                refine heldT (i := 12) (d := 9) (v := ?_) rfl rfl (by kernel_rfl) (by kernel_rfl) (by kernel_rfl) (fun _ _ _ h => h) (by kernel_rfl) ?_ (by assumption) ?_
                rotate_left
                · (intro w hSw; (try dsimp only at hSw); go_simp; try with_reducible rfl)
                simp only [Act.put, List.setIfInBounds_toArray, List.set_cons_zero, List.set_cons_succ]
                refine wpAnyH_done (by kernel_rfl) ?_ _
                go_split_ands
                go_wp2
                go_roundw
                case rel =>
                  refine ⟨j + 1, true, by omega, by go_num, rfl, ?_, HB3.out.trans (Below.mono (by assumption) hsz3)⟩
                  show _ = knTo _ _ (j + 1)
                  rw [KS.out, ← HKN.out]; rfl
                case measure => simp [intOf]; omega
            · have KE : Hid (kn = isKnown ⟨vv, g, t⟩ (sbs la)) := Lib.hid (by rw [HKN.out, knTo_all (by rw [sbs_len, LN.out]; omega)])
              cases kn
              · have q0 := cell_upC HBX.out C0.out
                have q1 := cell_upC HBX.out C1.out
                have q2 := cell_upC HBX.out C2.out
                have W4 := bel_alloc wr (.cells #[.slice A' n' c', .bool g, .string t] 43)
                have V4 := Lib.hid (Var3.new 43 wr (.slice A' n' c') (.bool g) (.string t))
                have I4 := Lib.hid ((I0.out.step HBX.out).step W4)
                have HW4 := Lib.hid W4
                have hgl := (HO2.out.lt gg rfl).2
                clear W4
                go_upto_region 18 with (at_builtin; go_must (refine app_ints _ rfl (.tmp 58) (.tmp 60) rfl (wr.alloc (.cells #[.slice A' n' c', .bool g, .string t] 43)) (wr.heap.size + 1) (by simp) rfl A' n' c' vv I4.out (by have := N3.out; omega) (by have := N3.out; omega) rfl rfl ?_; intro g5 c5' w5 ho5 hb5
                                                             have V5 := V4.out.step hb5
                                                             have p0 := V5.c0
                                                             have p1 := V5.c1
                                                             have p2 := V5.c2
                                                             have f0 := V5.f 0
                                                             have HV5 := Lib.hid V5
                                                             have HO5 := Lib.hid ho5
                                                             have HB5 := Lib.hid hb5
                                                             clear V5 ho5 hb5))
                have V6 := Lib.hid (HV5.out.set0 (.slice (some ⟨g5, 0, none⟩) n' c5'))
                have h5 : wr.heap.size + 1 ≤ w5.heap.size := by have := HB5.out.size; simp at this; omega
                have B6 : Hid (Below wr.heap.size wr (w5.setCell ⟨wr.heap.size, 0, none⟩ (.slice (some ⟨g5, 0, none⟩) n' c5'))) := Lib.hid ((HW4.out.trans (HB5.out.mono (by simp))).setCell (p := ⟨wr.heap.size, 0, none⟩) (Nat.le_refl _) _)
                have S6 : (w5.setCell ⟨wr.heap.size, 0, none⟩ (.slice (some ⟨g5, 0, none⟩) n' c5')).heap.size = w5.heap.size := by simp [World.setCell]
                have K6 : Hid (∀ q, q < wb.heap.size → (w5.setCell ⟨wr.heap.size, 0, none⟩ (.slice (some ⟨g5, 0, none⟩) n' c5')).heap[q]? = wb.heap[q]?) := Lib.hid (fun q hq => (B6.out.block q (by omega)).trans (HB3.out.block q hq))
                have O6 := Lib.hid (row_keep HO2.out (fun q hq => K6.out q (HO2.out.lt q hq).2))
                have OI6 : Hid (OwnInts (w5.setCell ⟨wr.heap.size, 0, none⟩ (.slice (some ⟨g5, 0, none⟩) n' c5')) (wr.heap.size + 1) w5.heap.size (some ⟨g5, 0, none⟩) n' c5' vv) := Lib.hid ((show OwnInts w5 (wr.heap.size + 1) w5.heap.size (some ⟨g5, 0, none⟩) n' c5' vv by simpa using HO5.out).setC (q := ⟨wr.heap.size, 0, none⟩) (.inl (Nat.lt_succ_self _)))
                have OK6 := Lib.hid (fun x hx => (HOW.out x hx).keepB (fun q hq => K6.out q ((HOW.out x hx).lt hq).2))
                have N6 : Hid (n' ≤ 1048576) := Lib.hid (by have := N3.out; omega)
                have WX6 := Lib.hid (HBX.out.trans (B6.out.mono (by omega)))
                generalize hw6 : w5.setCell ⟨wr.heap.size, 0, none⟩ (.slice (some ⟨g5, 0, none⟩) n' c5') = w6 at V6 B6 S6 K6 O6 OI6 OK6 WX6 ⊢
                have r0 := V6.out.c0
                have r1 := V6.out.c1
                have r2 := V6.out.c2
                clear hw6 p0 p1 p2 f0 q0 q1 q2
                go_wp2_with (at_builtin; go_must (refine app_sib2 _ rfl (.tmp 63) (.tmp 65) rfl w6 wa.heap.size (by omega) _ _ _ rfl O6.out (by omega) ⟨some ⟨g5, 0, none⟩, n', c5', vv, g, t⟩ w5.heap.size S6 rfl rfl ?_; intro g8 c8 w8 ho8 hb8 hs8 hat8 hfr8))
                have HB8 := Lib.hid (WX6.out.trans (hb8.mono (Nat.le_refl _)))
                have HO8 := Lib.hid ho8
                have HA8 := Lib.hid hat8
                have HF8 := Lib.hid hfr8
                clear ho8 hb8 hat8 hfr8
                go_wp2
                go_roundw
                case rel =>
                  have hkv : ∀ q, (⟨some ⟨g5, 0, none⟩, n', c5', vv, g, t⟩ : Kv).blk = some q → wr.heap.size + 1 ≤ q ∧ q < w5.heap.size := fun q hq => ⟨(OI6.out.1.lt q hq).1, OI6.out.2 q hq⟩
                  have hg8 : g8 = gg ∨ w6.heap.size < g8 := HA8.out.imp (fun e => by injection e with e; exact e.symm) id
                  refine ⟨k + 1, ls ++ [⟨some ⟨g5, 0, none⟩, n', c5', vv, g, t⟩], g8, c8, by omega, by go_num, by simp, ?_, HB8.out, ?_, ?_, ?_⟩
                  · show sbs _ = mTo (sbs la) (k + 1)
                    rw [MS.out, ← KE.out, sbs_append, HL.out]; rfl
                  · have e : (ls ++ [(⟨some ⟨g5, 0, none⟩, n', c5', vv, g, t⟩ : Kv)]).length = ls.length + 1 := by simp
                    rw [e]; exact HO8.out
                  · intro x hx
                    rcases List.mem_append.1 hx with hx | hx
                    · have ho := OK6.out x hx
                      refine (ho.keepB (fun q hq => HF8.out q (by have := (ho.lt hq).2; omega) (fun e => ?_))).wide (Nat.le_refl _) (by omega)
                      injection e with e
                      exact HOF.out x hx (hq.trans (congrArg some (show q = gg from e.symm)))
                    · rw [List.mem_singleton] at hx
                      subst hx
                      have ho : (⟨some ⟨g5, 0, none⟩, n', c5', vv, g, t⟩ : Kv).Own w6 (wr.heap.size + 1) w5.heap.size := ⟨OI6.out, N6.out, ht'⟩
                      refine (ho.keepB (fun q hq => HF8.out q (by have := hkv q hq; omega) (fun e => ?_))).wide (by omega) (by omega)
                      injection e with e
                      have := hkv q hq
                      have e' : gg = q := e
                      omega
                  · intro x hx he
                    rcases List.mem_append.1 hx with hx | hx
                    · rcases hg8 with h | h
                      · exact HOF.out x hx (by rw [he, h])
                      · have := ((HOW.out x hx).lt he).2
                        omega
                    · rw [List.mem_singleton] at hx
                      subst hx
                      have := hkv g8 he
                      rcases hg8 with h | h <;> omega
                case measure => simp [intOf]; omega
              · go_wp2
                go_roundw
                case rel =>
                  refine ⟨k + 1, ls, gg, cc, by omega, by go_num, rfl, ?_, HBX.out, row_keep HO2.out (fun q hq => HB3.out.block q (HO2.out.lt q hq).2), fun x hx => ((HOW.out x hx).keep (Keep.of_below HB3.out (Nat.le_refl _))).wide (Nat.le_refl _) hsz3, HOF.out⟩
                  show sbs ls = mTo (sbs la) (k + 1)
                  rw [MS.out, ← KE.out, HL.out]; simp
                case measure => simp [intOf]; omega
        · go_wp2
          go_ret
          refine ⟨gg, cc, ls, rfl, HW.out.trans (HB2.out.mono hsz), row_mono HO2.out hsz, fun x hx => (HOW.out x hx).wide hsz (Nat.le_refl _), HOF.out, ?_⟩
          rw [HL.out, SL.out]
          exact mTo_all (by rw [← SL.out, sbs_len, LN.out]; omega)

end Go.Proofs.YtldnpfkgehgfpaaDoor
