
/-
  Contract of l2Put.
-/
import Derived.Test.YtldnpfkgehgfpaaDoorSibsL
namespace Go.Proofs.YtldnpfkgehgfpaaDoor
open Go.RowKit Go.PlainAid

theorem pstep_put {s x : Kv} {ls : List Kv} {b : Bool} {c : Int} (hc : cmpS s.s x.s = c) : pstep s (ls, b) x = (if !b && decide (c < 0) then ls ++ [s, x] else ls ++ [x], b || decide (c ≤ 0)) := by
  unfold pstep; rw [hc]

theorem own_valS {w : World} {base : Nat} {e : TypeId} {size n : Nat} {v : Value} {xs : List Value} (h : w.ownsRow base e size v n xs) : ∃ A c, v = .slice A n c := by
  rcases h.2 with ⟨h2, h3⟩ | ⟨g, cap, cur, hv, _⟩
  · subst h3; exact ⟨none, 0, h2⟩
  · exact ⟨_, cap, hv⟩

set_option maxRecDepth 100000 in
set_option linter.unusedSimpArgs false in
set_option maxHeartbeats 6400000 in
theorem l2Put_any (A B : Option Addr) (n c m d : Nat) (ks : List Kv) (xs : List Int) (g : Bool) (t : ByteArray) (w : World) (h : HasS w A n ks) (h2 : Has w B m xs) (hn : n ≤ 100000) (hks : ∀ x ∈ sbs ks, vvOk x.vv = true) (hx : vvOk xs = true) :
    Calls Tryd.prog 33 #[.slice A n c, .agg #[.slice B m d, .bool g, .string t]] w fun e w' => ∃ A' c', e = .returned (.slice A' (putK ⟨B, m, d, xs, g, t⟩ ks).length c') ∧ Below w.heap.size w w' ∧ w'.ownsRow w.heap.size 43 3 (.slice A' (putK ⟨B, m, d, xs, g, t⟩ ks).length c') (putK ⟨B, m, d, xs, g, t⟩ ks).length (flat (putK ⟨B, m, d, xs, g, t⟩ ks)) := by
  have b0 := bel_alloc w (.cells #[.slice B m d, .bool g, .string t] 43)
  have B0 := Lib.hid b0
  have H := Lib.hid (h.step b0)
  have S := Lib.hid (h2.step b0)
  have HL := Lib.hid h.len
  have V := Lib.hid (Var3.new 43 w (.slice B m d) (.bool g) (.string t))
  have M3 := Lib.hid (h2.len.symm.trans (vvOk_len hx))
  have HK := Lib.hid hks
  clear h h2 hks b0
  go_enter Tryd.func33, Tryd.ntmps33
  go_wp2
  go_loopw [5, 6, 7] (fun v pf i wr => ∃ (k : Nat) (ls : List Kv) (pb : Bool), k ≤ n ∧ i = .int .i64 k ∧ pf = .bool pb ∧ Hid (pTo ⟨B, m, d, xs, g, t⟩ ks k = (ls, pb)) ∧ Hid (Below (w.heap.size + 1) (w.alloc (.cells #[.slice B m d, .bool g, .string t] 43)) wr) ∧ Hid (wr.ownsRow (w.heap.size + 1) 43 3 v ls.length (flat ls))) (fun _ _ i _ => n - (intOf i).toNat)
  case atStart => exact ⟨0, [], false, Nat.zero_le _, rfl, rfl, rfl, (Below.refl _ _).alloc (by simp) _, (Lib.hid (by have := World.ownsRow_lit (base := w.heap.size + 1) (e := 43) (size := 3) (w.alloc (.cells #[.slice B m d, .bool g, .string t] 43)) #[] 0 (by simp) (by unfold maxLen; omega) rfl; simpa [flat] using this))⟩
  case round =>
    obtain ⟨k, ls, pb, hk, rfl, rfl, HP, HB, HO⟩ := hrel
    have hll : ls.length ≤ 200000 := by
      have h1 := pTo_len (s := ⟨B, m, d, xs, g, t⟩) (ks := ks) k
      rw [HP.out] at h1
      have h2 : ls.length ≤ 2 * k := h1
      omega
    have HBW : Hid (Below (w.alloc (.cells #[.slice B m d, .bool g, .string t] 43)).heap.size (w.alloc (.cells #[.slice B m d, .bool g, .string t] 43)) wr) := Lib.hid (by simpa using HB.out)
    have U := Lib.hid (V.out.step HBW.out)
    have hsz : w.heap.size + 1 ≤ wr.heap.size := by have := HB.out.size; simp at this; omega
    by_cases hlt : k < n
    · obtain ⟨b, off, A', n', c', vv, g', t', rfl, hbl, c0, c1, c2, I, hn', ht', hxk⟩ := H.out.at_ hlt
      have Q0 := Lib.hid (cell_upC HBW.out c0)
      have Q1 := Lib.hid (cell_upC HBW.out c1)
      have Q2 := Lib.hid (cell_upC HBW.out c2)
      have S0 := Lib.hid U.out.c0
      have S1 := Lib.hid U.out.c1
      have S2 := Lib.hid U.out.c2
      have IR := Lib.hid (I.step HBW.out)
      have IS := Lib.hid (S.out.step HBW.out)
      have N3 := Lib.hid (I.len.symm.trans (vvOk_len (HK.out _ (List.mem_of_getElem? (sbs_at hxk.out)))))
      have i1 : (k : Int) < (n : Int) := by omega
      have i2 : (0 : Int) ≤ (k : Int) := by omega
      have hone := cmpS_good.one ⟨xs, g, t⟩ ⟨vv, g', t'⟩
      obtain ⟨z, hz⟩ : ∃ z, cmpS ⟨xs, g, t⟩ ⟨vv, g', t'⟩ = z := ⟨_, rfl⟩
      rw [hz] at hone
      have HC := Lib.hid hz
      have PS := Lib.hid ((pTo_succ hxk.out).trans ((congrArg (fun q => pstep ⟨B, m, d, xs, g, t⟩ q ⟨A', n', c', vv, g', t'⟩) HP.out).trans (pstep_put hz)))
      have C0 := Lib.hid c0
      have C1 := Lib.hid c1
      have C2 := Lib.hid c2
      clear c0 c1 c2 I hz
      rcases hone with rfl | rfl | rfl
      all_goals cases pb
      · go_wp2
        go_region_held3 (fun w' => w'.cell? ⟨w.heap.size, 0, none⟩ = some (.slice B m d) ∧ w'.cell? ⟨w.heap.size, 1, none⟩ = some (.bool g) ∧ w'.cell? ⟨w.heap.size, 2, none⟩ = some (.string t) ∧ w'.cell? ⟨b, off + k * 3, none⟩ = some (.slice A' n' c') ∧ w'.cell? ⟨b, off + k * 3 + 1, none⟩ = some (.bool g') ∧ w'.cell? ⟨b, off + k * 3 + 2, none⟩ = some (.string t') ∧ Has w' B m xs ∧ Has w' A' n' vv ∧ wr.heap.size ≤ w'.heap.size ∧ Below wr.heap.size wr w')
          (first
            | exact ⟨by exact S0.out, by exact S1.out, by exact S2.out, by exact Q0.out, by exact Q1.out, by exact Q2.out, by exact IS.out, by exact IR.out, Nat.le_refl _, (Below.refl _ _).drew⟩
            | (go_split_ands
               exact ⟨cell_upC hb (by assumption), cell_upC hb (by assumption), cell_upC hb (by assumption), cell_upC hb (by assumption), cell_upC hb (by assumption), cell_upC hb (by assumption), Has.step (by assumption) hb, Has.step (by assumption) hb, Nat.le_trans (by assumption) hb.size, Below.trans (by assumption) (hb.mono (by assumption))⟩))
          (first
            | (go_at_call 22; go_split_ands; refine (l2Cmp_any _ _ _ _ _ _ xs vv _ _ _ _ _ (by assumption) (by assumption) M3.out N3.out).mono ?_; rintro e w6 ⟨rfl, hb⟩; rw [HC.out]))
        go_split_ands
        have hbr : Below wr.heap.size wr w6 := by assumption
        have B6 := Lib.hid (HB.out.trans (hbr.mono hsz))
        have O6 := Lib.hid (row_keep HO.out (fun gg hg => hbr.block gg (HO.out.lt gg hg).2))
        have z6 : w.heap.size + 1 ≤ w6.heap.size := by have := B6.out.size; simp at this; omega
        have s0 : w6.cell? ⟨w.heap.size, 0, none⟩ = some (.slice B m d) := by assumption
        have s1 : w6.cell? ⟨w.heap.size, 1, none⟩ = some (.bool g) := by assumption
        have s2 : w6.cell? ⟨w.heap.size, 2, none⟩ = some (.string t) := by assumption
        have q0 : w6.cell? ⟨b, off + k * 3, none⟩ = some (.slice A' n' c') := by assumption
        have q1 : w6.cell? ⟨b, off + k * 3 + 1, none⟩ = some (.bool g') := by assumption
        have q2 : w6.cell? ⟨b, off + k * 3 + 2, none⟩ = some (.string t') := by assumption
        clear q0 q1 q2
        go_upto_region 9 with (at_builtin; go_must (refine app_sib _ rfl (.tmp 28) (.tmp 30) rfl (w.alloc (.cells #[.slice B m d, .bool g, .string t] 43)) _ (w.heap.size + 1) z6 B6.out _ _ _ rfl O6.out (by omega) ⟨B, m, d, xs, g, t⟩ _ rfl rfl rfl ?_; intro v7 w7 ho hb hs7))
        have B7 := Lib.hid hb
        have O7 := Lib.hid ho
        have z7 : w.heap.size + 1 ≤ w7.heap.size := by omega
        have hbW : Below (w.alloc (.cells #[.slice B m d, .bool g, .string t] 43)).heap.size (w.alloc (.cells #[.slice B m d, .bool g, .string t] 43)) w7 := by simpa using B7.out
        have q0 := cell_upC hbW C0.out
        have q1 := cell_upC hbW C1.out
        have q2 := cell_upC hbW C2.out
        clear hbW
        clear ho hb
        go_wp2_with (at_builtin; go_must (refine app_sib _ rfl (.tmp 37) (.tmp 42) rfl (w.alloc (.cells #[.slice B m d, .bool g, .string t] 43)) _ (w.heap.size + 1) z7 B7.out _ _ _ rfl O7.out (by omega) ⟨A', n', c', vv, g', t'⟩ _ rfl rfl rfl ?_; intro v8 w8 ho hb hs8))
        have B8 := Lib.hid hb
        have O8 := Lib.hid ho
        clear ho hb
        go_wp2
        go_roundw
        case rel =>
          refine ⟨k + 1, ls ++ [⟨B, m, d, xs, g, t⟩] ++ [⟨A', n', c', vv, g', t'⟩], true, by omega, by go_num, rfl, ?_, B8.out, ?_⟩
          · show pTo _ _ _ = _
            rw [PS.out]; simp
          · have e : (ls ++ [(⟨B, m, d, xs, g, t⟩ : Kv)] ++ [(⟨A', n', c', vv, g', t'⟩ : Kv)]).length = ls.length + 1 + 1 := by simp
            rw [e]; exact O8.out
        case measure => simp [intOf]; omega
      · go_wp2
        go_region_held3 (fun w' => w'.cell? ⟨w.heap.size, 0, none⟩ = some (.slice B m d) ∧ w'.cell? ⟨w.heap.size, 1, none⟩ = some (.bool g) ∧ w'.cell? ⟨w.heap.size, 2, none⟩ = some (.string t) ∧ w'.cell? ⟨b, off + k * 3, none⟩ = some (.slice A' n' c') ∧ w'.cell? ⟨b, off + k * 3 + 1, none⟩ = some (.bool g') ∧ w'.cell? ⟨b, off + k * 3 + 2, none⟩ = some (.string t') ∧ Has w' B m xs ∧ Has w' A' n' vv ∧ wr.heap.size ≤ w'.heap.size ∧ Below wr.heap.size wr w')
          (first
            | exact ⟨by exact S0.out, by exact S1.out, by exact S2.out, by exact Q0.out, by exact Q1.out, by exact Q2.out, by exact IS.out, by exact IR.out, Nat.le_refl _, (Below.refl _ _).drew⟩
            | (go_split_ands
               exact ⟨cell_upC hb (by assumption), cell_upC hb (by assumption), cell_upC hb (by assumption), cell_upC hb (by assumption), cell_upC hb (by assumption), cell_upC hb (by assumption), Has.step (by assumption) hb, Has.step (by assumption) hb, Nat.le_trans (by assumption) hb.size, Below.trans (by assumption) (hb.mono (by assumption))⟩))
          (first
            | (go_at_call 22; go_split_ands; refine (l2Cmp_any _ _ _ _ _ _ xs vv _ _ _ _ _ (by assumption) (by assumption) M3.out N3.out).mono ?_; rintro e w6 ⟨rfl, hb⟩; rw [HC.out]))
        go_split_ands
        have hbr : Below wr.heap.size wr w6 := by assumption
        have B6 := Lib.hid (HB.out.trans (hbr.mono hsz))
        have O6 := Lib.hid (row_keep HO.out (fun gg hg => hbr.block gg (HO.out.lt gg hg).2))
        have z6 : w.heap.size + 1 ≤ w6.heap.size := by have := B6.out.size; simp at this; omega
        have s0 : w6.cell? ⟨w.heap.size, 0, none⟩ = some (.slice B m d) := by assumption
        have s1 : w6.cell? ⟨w.heap.size, 1, none⟩ = some (.bool g) := by assumption
        have s2 : w6.cell? ⟨w.heap.size, 2, none⟩ = some (.string t) := by assumption
        have q0 : w6.cell? ⟨b, off + k * 3, none⟩ = some (.slice A' n' c') := by assumption
        have q1 : w6.cell? ⟨b, off + k * 3 + 1, none⟩ = some (.bool g') := by assumption
        have q2 : w6.cell? ⟨b, off + k * 3 + 2, none⟩ = some (.string t') := by assumption
        go_wp2_with (at_builtin; go_must (refine app_sib _ rfl (.tmp 37) (.tmp 42) rfl (w.alloc (.cells #[.slice B m d, .bool g, .string t] 43)) _ (w.heap.size + 1) z6 B6.out _ _ _ rfl O6.out (by omega) ⟨A', n', c', vv, g', t'⟩ _ rfl rfl rfl ?_; intro v8 w8 ho hb hs8))
        have B8 := Lib.hid hb
        have O8 := Lib.hid ho
        clear ho hb
        go_wp2
        go_roundw
        case rel =>
          refine ⟨k + 1, ls ++ [⟨A', n', c', vv, g', t'⟩], true, by omega, by go_num, rfl, ?_, B8.out, ?_⟩
          · show pTo _ _ _ = _
            rw [PS.out]; simp
          · have e : (ls ++ [(⟨A', n', c', vv, g', t'⟩ : Kv)]).length = ls.length + 1 := by simp
            rw [e]; exact O8.out
        case measure => simp [intOf]; omega
      · go_wp2
        go_region_held3 (fun w' => w'.cell? ⟨w.heap.size, 0, none⟩ = some (.slice B m d) ∧ w'.cell? ⟨w.heap.size, 1, none⟩ = some (.bool g) ∧ w'.cell? ⟨w.heap.size, 2, none⟩ = some (.string t) ∧ w'.cell? ⟨b, off + k * 3, none⟩ = some (.slice A' n' c') ∧ w'.cell? ⟨b, off + k * 3 + 1, none⟩ = some (.bool g') ∧ w'.cell? ⟨b, off + k * 3 + 2, none⟩ = some (.string t') ∧ Has w' B m xs ∧ Has w' A' n' vv ∧ wr.heap.size ≤ w'.heap.size ∧ Below wr.heap.size wr w')
          (first
            | exact ⟨by exact S0.out, by exact S1.out, by exact S2.out, by exact Q0.out, by exact Q1.out, by exact Q2.out, by exact IS.out, by exact IR.out, Nat.le_refl _, (Below.refl _ _).drew⟩
            | (go_split_ands
               exact ⟨cell_upC hb (by assumption), cell_upC hb (by assumption), cell_upC hb (by assumption), cell_upC hb (by assumption), cell_upC hb (by assumption), cell_upC hb (by assumption), Has.step (by assumption) hb, Has.step (by assumption) hb, Nat.le_trans (by assumption) hb.size, Below.trans (by assumption) (hb.mono (by assumption))⟩))
          (first
            | (go_at_call 22; go_split_ands; refine (l2Cmp_any _ _ _ _ _ _ xs vv _ _ _ _ _ (by assumption) (by assumption) M3.out N3.out).mono ?_; rintro e w6 ⟨rfl, hb⟩; rw [HC.out]))
        go_split_ands
        have hbr : Below wr.heap.size wr w6 := by assumption
        have B6 := Lib.hid (HB.out.trans (hbr.mono hsz))
        have O6 := Lib.hid (row_keep HO.out (fun gg hg => hbr.block gg (HO.out.lt gg hg).2))
        have z6 : w.heap.size + 1 ≤ w6.heap.size := by have := B6.out.size; simp at this; omega
        have s0 : w6.cell? ⟨w.heap.size, 0, none⟩ = some (.slice B m d) := by assumption
        have s1 : w6.cell? ⟨w.heap.size, 1, none⟩ = some (.bool g) := by assumption
        have s2 : w6.cell? ⟨w.heap.size, 2, none⟩ = some (.string t) := by assumption
        have q0 : w6.cell? ⟨b, off + k * 3, none⟩ = some (.slice A' n' c') := by assumption
        have q1 : w6.cell? ⟨b, off + k * 3 + 1, none⟩ = some (.bool g') := by assumption
        have q2 : w6.cell? ⟨b, off + k * 3 + 2, none⟩ = some (.string t') := by assumption
        go_wp2_with (at_builtin; go_must (refine app_sib _ rfl (.tmp 37) (.tmp 42) rfl (w.alloc (.cells #[.slice B m d, .bool g, .string t] 43)) _ (w.heap.size + 1) z6 B6.out _ _ _ rfl O6.out (by omega) ⟨A', n', c', vv, g', t'⟩ _ rfl rfl rfl ?_; intro v8 w8 ho hb hs8))
        have B8 := Lib.hid hb
        have O8 := Lib.hid ho
        clear ho hb
        go_wp2
        go_roundw
        case rel =>
          refine ⟨k + 1, ls ++ [⟨A', n', c', vv, g', t'⟩], true, by omega, by go_num, rfl, ?_, B8.out, ?_⟩
          · show pTo _ _ _ = _
            rw [PS.out]; simp
          · have e : (ls ++ [(⟨A', n', c', vv, g', t'⟩ : Kv)]).length = ls.length + 1 := by simp
            rw [e]; exact O8.out
        case measure => simp [intOf]; omega
      · go_wp2
        go_region_held3 (fun w' => w'.cell? ⟨w.heap.size, 0, none⟩ = some (.slice B m d) ∧ w'.cell? ⟨w.heap.size, 1, none⟩ = some (.bool g) ∧ w'.cell? ⟨w.heap.size, 2, none⟩ = some (.string t) ∧ w'.cell? ⟨b, off + k * 3, none⟩ = some (.slice A' n' c') ∧ w'.cell? ⟨b, off + k * 3 + 1, none⟩ = some (.bool g') ∧ w'.cell? ⟨b, off + k * 3 + 2, none⟩ = some (.string t') ∧ Has w' B m xs ∧ Has w' A' n' vv ∧ wr.heap.size ≤ w'.heap.size ∧ Below wr.heap.size wr w')
          (first
            | exact ⟨by exact S0.out, by exact S1.out, by exact S2.out, by exact Q0.out, by exact Q1.out, by exact Q2.out, by exact IS.out, by exact IR.out, Nat.le_refl _, (Below.refl _ _).drew⟩
            | (go_split_ands
               exact ⟨cell_upC hb (by assumption), cell_upC hb (by assumption), cell_upC hb (by assumption), cell_upC hb (by assumption), cell_upC hb (by assumption), cell_upC hb (by assumption), Has.step (by assumption) hb, Has.step (by assumption) hb, Nat.le_trans (by assumption) hb.size, Below.trans (by assumption) (hb.mono (by assumption))⟩))
          (first
            | (go_at_call 22; go_split_ands; refine (l2Cmp_any _ _ _ _ _ _ xs vv _ _ _ _ _ (by assumption) (by assumption) M3.out N3.out).mono ?_; rintro e w6 ⟨rfl, hb⟩; rw [HC.out]))
        go_split_ands
        have hbr : Below wr.heap.size wr w6 := by assumption
        have B6 := Lib.hid (HB.out.trans (hbr.mono hsz))
        have O6 := Lib.hid (row_keep HO.out (fun gg hg => hbr.block gg (HO.out.lt gg hg).2))
        have z6 : w.heap.size + 1 ≤ w6.heap.size := by have := B6.out.size; simp at this; omega
        have s0 : w6.cell? ⟨w.heap.size, 0, none⟩ = some (.slice B m d) := by assumption
        have s1 : w6.cell? ⟨w.heap.size, 1, none⟩ = some (.bool g) := by assumption
        have s2 : w6.cell? ⟨w.heap.size, 2, none⟩ = some (.string t) := by assumption
        have q0 : w6.cell? ⟨b, off + k * 3, none⟩ = some (.slice A' n' c') := by assumption
        have q1 : w6.cell? ⟨b, off + k * 3 + 1, none⟩ = some (.bool g') := by assumption
        have q2 : w6.cell? ⟨b, off + k * 3 + 2, none⟩ = some (.string t') := by assumption
        go_wp2_with (at_builtin; go_must (refine app_sib _ rfl (.tmp 37) (.tmp 42) rfl (w.alloc (.cells #[.slice B m d, .bool g, .string t] 43)) _ (w.heap.size + 1) z6 B6.out _ _ _ rfl O6.out (by omega) ⟨A', n', c', vv, g', t'⟩ _ rfl rfl rfl ?_; intro v8 w8 ho hb hs8))
        have B8 := Lib.hid hb
        have O8 := Lib.hid ho
        clear ho hb
        go_wp2
        go_roundw
        case rel =>
          refine ⟨k + 1, ls ++ [⟨A', n', c', vv, g', t'⟩], true, by omega, by go_num, rfl, ?_, B8.out, ?_⟩
          · show pTo _ _ _ = _
            rw [PS.out]; simp
          · have e : (ls ++ [(⟨A', n', c', vv, g', t'⟩ : Kv)]).length = ls.length + 1 := by simp
            rw [e]; exact O8.out
        case measure => simp [intOf]; omega
      · go_wp2
        go_region_held3 (fun w' => w'.cell? ⟨w.heap.size, 0, none⟩ = some (.slice B m d) ∧ w'.cell? ⟨w.heap.size, 1, none⟩ = some (.bool g) ∧ w'.cell? ⟨w.heap.size, 2, none⟩ = some (.string t) ∧ w'.cell? ⟨b, off + k * 3, none⟩ = some (.slice A' n' c') ∧ w'.cell? ⟨b, off + k * 3 + 1, none⟩ = some (.bool g') ∧ w'.cell? ⟨b, off + k * 3 + 2, none⟩ = some (.string t') ∧ Has w' B m xs ∧ Has w' A' n' vv ∧ wr.heap.size ≤ w'.heap.size ∧ Below wr.heap.size wr w')
          (first
            | exact ⟨by exact S0.out, by exact S1.out, by exact S2.out, by exact Q0.out, by exact Q1.out, by exact Q2.out, by exact IS.out, by exact IR.out, Nat.le_refl _, (Below.refl _ _).drew⟩
            | (go_split_ands
               exact ⟨cell_upC hb (by assumption), cell_upC hb (by assumption), cell_upC hb (by assumption), cell_upC hb (by assumption), cell_upC hb (by assumption), cell_upC hb (by assumption), Has.step (by assumption) hb, Has.step (by assumption) hb, Nat.le_trans (by assumption) hb.size, Below.trans (by assumption) (hb.mono (by assumption))⟩))
          (first
            | (go_at_call 22; go_split_ands; refine (l2Cmp_any _ _ _ _ _ _ xs vv _ _ _ _ _ (by assumption) (by assumption) M3.out N3.out).mono ?_; rintro e w6 ⟨rfl, hb⟩; rw [HC.out]))
        go_split_ands
        have hbr : Below wr.heap.size wr w6 := by assumption
        have B6 := Lib.hid (HB.out.trans (hbr.mono hsz))
        have O6 := Lib.hid (row_keep HO.out (fun gg hg => hbr.block gg (HO.out.lt gg hg).2))
        have z6 : w.heap.size + 1 ≤ w6.heap.size := by have := B6.out.size; simp at this; omega
        have s0 : w6.cell? ⟨w.heap.size, 0, none⟩ = some (.slice B m d) := by assumption
        have s1 : w6.cell? ⟨w.heap.size, 1, none⟩ = some (.bool g) := by assumption
        have s2 : w6.cell? ⟨w.heap.size, 2, none⟩ = some (.string t) := by assumption
        have q0 : w6.cell? ⟨b, off + k * 3, none⟩ = some (.slice A' n' c') := by assumption
        have q1 : w6.cell? ⟨b, off + k * 3 + 1, none⟩ = some (.bool g') := by assumption
        have q2 : w6.cell? ⟨b, off + k * 3 + 2, none⟩ = some (.string t') := by assumption
        go_wp2_with (at_builtin; go_must (refine app_sib _ rfl (.tmp 37) (.tmp 42) rfl (w.alloc (.cells #[.slice B m d, .bool g, .string t] 43)) _ (w.heap.size + 1) z6 B6.out _ _ _ rfl O6.out (by omega) ⟨A', n', c', vv, g', t'⟩ _ rfl rfl rfl ?_; intro v8 w8 ho hb hs8))
        have B8 := Lib.hid hb
        have O8 := Lib.hid ho
        clear ho hb
        go_wp2
        go_roundw
        case rel =>
          refine ⟨k + 1, ls ++ [⟨A', n', c', vv, g', t'⟩], false, by omega, by go_num, rfl, ?_, B8.out, ?_⟩
          · show pTo _ _ _ = _
            rw [PS.out]; simp
          · have e : (ls ++ [(⟨A', n', c', vv, g', t'⟩ : Kv)]).length = ls.length + 1 := by simp
            rw [e]; exact O8.out
        case measure => simp [intOf]; omega
      · go_wp2
        go_region_held3 (fun w' => w'.cell? ⟨w.heap.size, 0, none⟩ = some (.slice B m d) ∧ w'.cell? ⟨w.heap.size, 1, none⟩ = some (.bool g) ∧ w'.cell? ⟨w.heap.size, 2, none⟩ = some (.string t) ∧ w'.cell? ⟨b, off + k * 3, none⟩ = some (.slice A' n' c') ∧ w'.cell? ⟨b, off + k * 3 + 1, none⟩ = some (.bool g') ∧ w'.cell? ⟨b, off + k * 3 + 2, none⟩ = some (.string t') ∧ Has w' B m xs ∧ Has w' A' n' vv ∧ wr.heap.size ≤ w'.heap.size ∧ Below wr.heap.size wr w')
          (first
            | exact ⟨by exact S0.out, by exact S1.out, by exact S2.out, by exact Q0.out, by exact Q1.out, by exact Q2.out, by exact IS.out, by exact IR.out, Nat.le_refl _, (Below.refl _ _).drew⟩
            | (go_split_ands
               exact ⟨cell_upC hb (by assumption), cell_upC hb (by assumption), cell_upC hb (by assumption), cell_upC hb (by assumption), cell_upC hb (by assumption), cell_upC hb (by assumption), Has.step (by assumption) hb, Has.step (by assumption) hb, Nat.le_trans (by assumption) hb.size, Below.trans (by assumption) (hb.mono (by assumption))⟩))
          (first
            | (go_at_call 22; go_split_ands; refine (l2Cmp_any _ _ _ _ _ _ xs vv _ _ _ _ _ (by assumption) (by assumption) M3.out N3.out).mono ?_; rintro e w6 ⟨rfl, hb⟩; rw [HC.out]))
        go_split_ands
        have hbr : Below wr.heap.size wr w6 := by assumption
        have B6 := Lib.hid (HB.out.trans (hbr.mono hsz))
        have O6 := Lib.hid (row_keep HO.out (fun gg hg => hbr.block gg (HO.out.lt gg hg).2))
        have z6 : w.heap.size + 1 ≤ w6.heap.size := by have := B6.out.size; simp at this; omega
        have s0 : w6.cell? ⟨w.heap.size, 0, none⟩ = some (.slice B m d) := by assumption
        have s1 : w6.cell? ⟨w.heap.size, 1, none⟩ = some (.bool g) := by assumption
        have s2 : w6.cell? ⟨w.heap.size, 2, none⟩ = some (.string t) := by assumption
        have q0 : w6.cell? ⟨b, off + k * 3, none⟩ = some (.slice A' n' c') := by assumption
        have q1 : w6.cell? ⟨b, off + k * 3 + 1, none⟩ = some (.bool g') := by assumption
        have q2 : w6.cell? ⟨b, off + k * 3 + 2, none⟩ = some (.string t') := by assumption
        go_wp2_with (at_builtin; go_must (refine app_sib _ rfl (.tmp 37) (.tmp 42) rfl (w.alloc (.cells #[.slice B m d, .bool g, .string t] 43)) _ (w.heap.size + 1) z6 B6.out _ _ _ rfl O6.out (by omega) ⟨A', n', c', vv, g', t'⟩ _ rfl rfl rfl ?_; intro v8 w8 ho hb hs8))
        have B8 := Lib.hid hb
        have O8 := Lib.hid ho
        clear ho hb
        go_wp2
        go_roundw
        case rel =>
          refine ⟨k + 1, ls ++ [⟨A', n', c', vv, g', t'⟩], true, by omega, by go_num, rfl, ?_, B8.out, ?_⟩
          · show pTo _ _ _ = _
            rw [PS.out]; simp
          · have e : (ls ++ [(⟨A', n', c', vv, g', t'⟩ : Kv)]).length = ls.length + 1 := by simp
            rw [e]; exact O8.out
        case measure => simp [intOf]; omega
    · have HPA := Lib.hid (pTo_all (s := ⟨B, m, d, xs, g, t⟩) (ks := ks) (k := k) (by rw [HL.out]; omega))
      have s0 := U.out.c0
      have s1 := U.out.c1
      have s2 := U.out.c2
      have HBF := Lib.hid (B0.out.trans (HB.out.mono (by omega)))
      cases pb
      · go_wp2_with (at_builtin; go_must (refine app_sib _ rfl (.tmp 46) (.tmp 48) rfl (w.alloc (.cells #[.slice B m d, .bool g, .string t] 43)) _ (w.heap.size + 1) hsz HB.out _ _ _ rfl HO.out (by omega) ⟨B, m, d, xs, g, t⟩ _ rfl rfl rfl ?_; intro v9 w9 ho hb hs9))
        go_wp2
        go_ret
        have e : putK ⟨B, m, d, xs, g, t⟩ ks = ls ++ [⟨B, m, d, xs, g, t⟩] := by rw [← HPA.out, HP.out]; rfl
        obtain ⟨A', c', rfl⟩ := own_valS ho
        rw [e]
        exact ⟨A', c', by simp, B0.out.trans (hb.mono (by omega)), row_mono (by simpa using ho) (by omega)⟩
      · go_wp2
        go_ret
        have e : putK ⟨B, m, d, xs, g, t⟩ ks = ls := by rw [← HPA.out, HP.out]; simp
        have HO' := HO.out
        obtain ⟨A', c', rfl⟩ := own_valS HO'
        rw [e]
        exact ⟨A', c', rfl, HBF.out, row_mono HO' (by omega)⟩

end Go.Proofs.YtldnpfkgehgfpaaDoor
