
/-
  Contracts of the drawn lists of versions: l71Sibs, DrawSibsVv, DrawSibsShow, DrawSibsOk, DrawSibsMerge.
-/
import Derived.Test.YtldnpfkgehgfpaaDoorSibsN
import Derived.Test.YtldnpfkgehgfpaaDoorDrawS2
namespace Go.Proofs.YtldnpfkgehgfpaaDoor
open Go.RowKit Go.PlainAid

/-- A list that was drawn: its row is the call's own, and the reader may have gone on. -/
structure DrawL (g : Nat) (w w' : World) (gg c : Nat) (ks : List Kv) : Prop where
  gro : Gro g w w'
  row : w'.ownsRow w.heap.size 43 3 (.slice (some ⟨gg, 0, none⟩) ks.length c) ks.length (flat ks)
  ok : ∀ k ∈ ks, k.Ok w' w.heap.size w'.heap.size
  off : ∀ k ∈ ks, 0 < k.n → k.blk ≠ some gg
theorem Kv.Ok.keepB {w w' : World} {lo hi : Nat} {k : Kv} (h : k.Ok w lo hi) (hb : 0 < k.n → ∀ q, k.blk = some q → w'.heap[q]? = w.heap[q]?) : k.Ok w' lo hi := by
  refine ⟨⟨h.1.1, fun hn => ?_⟩, h.2⟩
  obtain ⟨b, off, e, h1, h2, hc⟩ := h.1.2 hn
  refine ⟨b, off, e, h1, h2, fun j u hu => (World.cell?_of_block (w := w) (w' := w') (a := ⟨b, off + j, none⟩) (hb hn b ?_)).trans (hc j u hu)⟩
  unfold Kv.blk
  rw [e]
  rfl
theorem Kv.Ok.lt {w : World} {lo hi : Nat} {k : Kv} (h : k.Ok w lo hi) (hn : 0 < k.n) {q : Nat} (hq : k.blk = some q) : lo ≤ q ∧ q < hi := by
  obtain ⟨b, off, e, h1, h2, _⟩ := h.1.2 hn
  unfold Kv.blk at hq
  rw [e] at hq
  injection hq with hq
  have hq' : b = q := hq
  omega
section
variable {g gg c : Nat} {w w1 w2 : World} {ks : List Kv}
theorem DrawL.go (h : DrawL g w w1 gg c ks) (hG : Gro g w1 w2) (hg : g < w.heap.size) : DrawL g w w2 gg c ks := by
  refine ⟨h.gro.trans hG, row_keep h.row fun q hq => hG.block q (h.row.lt q hq).2 (by have := (h.row.lt q hq).1; omega), fun k hk => ?_, h.off⟩
  exact ((h.ok k hk).keep (hG.keep (.inl hg) (Nat.le_refl _))).wide (Nat.le_refl _) hG.size
theorem DrawL.below (h : DrawL g w w1 gg c ks) (hb : Below w1.heap.size w1 w2) (hg : g < w.heap.size) : DrawL g w w2 gg c ks := h.go (.of_below hb) hg
/-- One more behind it. -/
theorem DrawL.more {w3 w8 : World} {g8 c8 : Nat} {k : Kv} (h : DrawL g w w1 gg c ks) (hg : g < w.heap.size) (hG : Gro g w1 w3) (hk : k.Ok w3 w1.heap.size w3.heap.size) (ho : w8.ownsRow w.heap.size 43 3 (.slice (some ⟨g8, 0, none⟩) (ks.length + 1) c8) (ks.length + 1) (flat (ks ++ [k])))
    (hb : Below w.heap.size w3 w8) (hs8 : w3.heap.size ≤ w8.heap.size) (hat : gg = g8 ∨ w3.heap.size < g8) (hfr : ∀ q, q < w3.heap.size → gg ≠ q → w8.heap[q]? = w3.heap[q]?) : DrawL g w w8 g8 c8 (ks ++ [k]) := by
  have h3 := h.go hG hg
  have hgg := (h.row.lt gg rfl).2
  have hw := h.gro.size
  have e : (ks ++ [k]).length = ks.length + 1 := by simp
  refine ⟨⟨hb.os.trans h3.gro.os, hb.tape.trans h3.gro.tape, hb.output.trans h3.gro.output, Nat.le_trans h3.gro.size hs8, fun q hq hne => (hb.block q hq).trans (h3.gro.block q hq hne)⟩, by rw [e]; exact ho, fun x hx => ?_, fun x hx hn he => ?_⟩
  · rcases List.mem_append.1 hx with hx | hx
    · exact ((h3.ok x hx).keepB (fun hn q hq => hfr q ((h3.ok x hx).lt hn hq).2 (fun e => h3.off x hx hn (by rw [hq, e])))).wide (Nat.le_refl _) hs8
    · rw [List.mem_singleton] at hx
      subst hx
      exact (hk.keepB (fun hn q hq => hfr q (hk.lt hn hq).2 (by have := (hk.lt hn hq).1; omega))).wide hw hs8
  · rcases List.mem_append.1 hx with hx | hx
    · rcases hat with h' | h'
      · exact h3.off x hx hn (by rw [he, h'])
      · have := ((h3.ok x hx).lt hn he).2; omega
    · rw [List.mem_singleton] at hx
      subst hx
      have := hk.lt hn he
      rcases hat with h' | h' <;> omega
theorem own_cap {w : World} {base : Nat} {e : TypeId} {size n m c : Nat} {A : Addr} {xs : List Value} (h : w.ownsRow base e size (.slice (some A) m c) n xs) : n ≤ c := by
  rcases h.2 with ⟨h2, h3⟩ | ⟨g, cap, cur, hv, _, _, hc, _⟩
  · cases h2
  · injection hv with _ _ e3
    rw [e3]; exact hc
theorem DrawL.has (h : DrawL g w w1 gg c ks) : HasS w1 (some ⟨gg, 0, none⟩) ks.length ks := hasS_row h.row fun k hk => (h.ok k hk).wide (Nat.zero_le _) (Nat.le_refl _)
end
/-- One version, in a row of its own. -/
theorem one_new {w : World} {A : Option Addr} {n c : Nat} {xs : List Int} {g : Bool} {t : ByteArray} (h : Has w A n xs) (hn : n ≤ maxLen) (ht : t.size ≤ maxLen) :
    HasS (w.alloc (.cells #[.slice A n c, .bool g, .string t] 43)) (some ⟨w.heap.size, 0, none⟩) 1 [⟨A, n, c, xs, g, t⟩] := by
  refine ⟨⟨rfl, fun _ => ⟨w.heap.size, 0, rfl, Nat.zero_le _, by simp, fun j u hu => ?_⟩⟩, fun k hk => ?_⟩
  · have := cell_three_new w (.slice A n c) (.bool g) (.string t) 43 j u hu
    have hadd : (⟨w.heap.size, 0, none⟩ : Addr).add j = ⟨w.heap.size, 0 + j, none⟩ := by unfold Addr.add; split <;> simp_all
    rw [hadd] at this
    exact this
  · rw [List.mem_singleton] at hk
    subst hk
    exact ⟨h.step (bel_alloc _ _), hn, ht⟩
theorem merge_vv {a b : List Sb} (ha : ∀ x ∈ a, vvOk x.vv = true) (hb : ∀ x ∈ b, vvOk x.vv = true) : ∀ x ∈ mergeL a b, vvOk x.vv = true := fun x hx => (mem_mergeL.1 hx).1.elim (ha x) (hb x)

set_option maxRecDepth 100000 in
set_option maxHeartbeats 3200000 in
theorem l71Sibs_any (g p : Nat) (w : World) (h : Rd w g p) (hp : p ≤ 500000) :
    Calls Tryd.prog 12 #[.pointer (some ⟨g, 0, none⟩)] w fun e w' => ∃ gg c ks, e = .returned (.slice (some ⟨gg, 0, none⟩) ks.length c) ∧ ks.length ≤ 5 ∧ DrawL g w w' gg c ks ∧ ∃ p', p' ≤ p + 130 ∧ Rd w' g p' := by
  have b0 := bel_alloc w (.cells #[] 43)
  have R0 := Lib.hid (h.below b0)
  have hg := h.lt
  have D0 : Hid (DrawL g w (w.alloc (.cells #[] 43)) w.heap.size 0 []) := Lib.hid ⟨Gro.of_below b0, World.ownsRow_lit w #[] 0 (Nat.le_refl _) (by unfold maxLen; omega) rfl, (fun k hk => by cases hk), (fun k hk => by cases hk)⟩
  clear h b0
  go_enter Tryd.func12, Tryd.ntmps12
  go_wp2_with fail
  refine (pick_any g p 4 _ R0.out (by omega) (by omega) (by omega)).mono ?_
  rintro e w1 ⟨v1, rfl, hv1, hG, hR⟩
  have D1 := Lib.hid (D0.out.go hG hg)
  have R1 := Lib.hid hR
  clear hG hR
  go_wp2
  go_loopw [3, 4] (fun v nv wr => ∃ (k q gg c : Nat) (ks : List Kv), nv = .int .i64 k ∧ k ≤ 4 ∧ v = .slice (some ⟨gg, 0, none⟩) ks.length c ∧ ks.length + k ≤ 4 ∧ q + 20 * k ≤ p + 81 ∧ Hid (DrawL g w wr gg c ks) ∧ Hid (∀ x ∈ sbs ks, vvOk x.vv = true) ∧ Hid (Rd wr g q)) (fun _ nv _ => (intOf nv).toNat)
  case atStart => exact ⟨v1 + 1, p + 1, w.heap.size, 0, [], by go_num, by omega, rfl, by simp; omega, by omega, D1.out, (fun x hx => by cases hx), R1.out⟩
  case round =>
    obtain ⟨k, q, gg, c, ks, rfl, hk, rfl, hl, hq, HD, HV, HR⟩ := hrel
    clear D1 R1
    have hgw := HR.out.lt
    by_cases hk0 : 0 < k
    · go_wp2_with fail
      refine (l71Sib_any g q _ HR.out (by omega)).mono ?_
      rintro e w2 ⟨A', n', c', xs, b, t, rfl, hn', ht', hG, hI, q2, hq2, hR⟩
      have s2 := hG.size
      have ka := bel_alloc w2 (.cells #[.slice A' n' c', .bool b, .string t] 43)
      have D2 := Lib.hid ((HD.out.go hG hg).below ka hg)
      have R2 := Lib.hid (hR.below ka)
      have I2 := Lib.hid ((Has.of hI (Nat.le_refl _)).step ka)
      have V2 := Lib.hid (Var3.new 43 w2 (.slice A' n' c') (.bool b) (.string t))
      clear hG hI hR ka
      go_wp2_with fail
      refine (sSibOk_any A' n' c' xs b t _ I2.out (by unfold maxLen; omega) (by unfold maxLen; omega)).mono ?_
      rintro e w3 ⟨rfl, hb⟩
      have D3 := Lib.hid (D2.out.below hb hg)
      have R3 := Lib.hid (R2.out.below hb)
      have I3 := Lib.hid (I2.out.step hb)
      have V3 := V2.out.step hb
      clear hb
      by_cases hs : sibOk ⟨xs, b, t⟩ = true
      · rw [hs]
        have v0 := V3.c0
        have v1 := V3.c1
        have v2 := V3.c2
        have kb := bel_alloc w3 (.cells #[.slice A' n' c', .bool b, .string t] 43)
        have D4 := Lib.hid (D3.out.below kb hg)
        have R4 := Lib.hid (R3.out.below kb)
        have ONE := Lib.hid (one_new (c := c') (g := b) I3.out (by unfold maxLen; omega) (show t.size ≤ maxLen by unfold maxLen; omega))
        have HVS : Hid (∀ x ∈ sbs [(⟨A', n', c', xs, b, t⟩ : Kv)], vvOk x.vv = true) := Lib.hid (fun x hx => by
          have e : x = ⟨xs, b, t⟩ := by simpa [sbs] using hx
          subst e
          exact sibOk_vv hs)
        clear V3 kb
        go_wp2_with fail
        refine (l2Merge_any ⟨gg, 0, none⟩ _ _ c 1 1 ks [⟨A', n', c', xs, b, t⟩] _ D4.out.has ONE.out (by omega) (by omega) HV.out HVS.out).mono ?_
        rintro e w5 ⟨g5, c5, lr, rfl, hb, ho, hw, hof, hm⟩
        have hl5 : lr.length ≤ ks.length + 1 := by
          have h1 := len_mergeL (sbs ks) (sbs [(⟨A', n', c', xs, b, t⟩ : Kv)])
          rw [← hm, sbs_len, sbs_len, sbs_len] at h1
          exact h1
        have s4 := D4.out.gro.size
        have D5 : Hid (DrawL g w w5 g5 c5 lr) := Lib.hid ⟨D4.out.gro.trans (.of_below hb), row_mono ho s4, (fun x hx => ((hw x hx).ok).wide s4 (Nat.le_refl _)), fun x hx _ => hof x hx⟩
        have R5 := Lib.hid (R4.out.below hb)
        have HV5 : Hid (∀ x ∈ sbs lr, vvOk x.vv = true) := Lib.hid (by rw [hm]; exact merge_vv HV.out HVS.out)
        clear hb ho hw hof hm v0 v1 v2
        go_wp2
        go_roundw
        case rel => exact ⟨k - 1, q2, g5, c5, lr, by go_num, by omega, rfl, by omega, by omega, D5.out, HV5.out, R5.out⟩
        case measure => simp [intOf]; omega
      · have hs' : sibOk ⟨xs, b, t⟩ = false := by simpa using hs
        rw [hs']
        clear hs V3
        go_wp2
        go_roundw
        case rel => exact ⟨k - 1, q2, gg, c, ks, by go_num, by omega, rfl, by omega, by omega, D3.out, HV.out, R3.out⟩
        case measure => simp [intOf]; omega
    · obtain rfl : k = 0 := by omega
      go_wp2_with fail
      refine (pick_any g q 24 _ HR.out (by omega) (by omega) (by omega)).mono ?_
      rintro e w2 ⟨v2, rfl, hv2, hG, hR⟩
      have D2 := Lib.hid (HD.out.go hG hg)
      have R2 := Lib.hid hR
      clear hG hR
      by_cases hv : v2 = 0
      · subst hv
        go_wp2_with fail
        refine (l71Sib_any g (q + 1) _ R2.out (by omega)).mono ?_
        rintro e w3 ⟨A', n', c', xs, b, t, rfl, hn', ht', hG, hI, q3, hq3, hR⟩
        have D3 := Lib.hid (D2.out.go hG hg)
        have R3 := Lib.hid hR
        have HG3 := Lib.hid hG
        have K3 : Hid ((⟨A', n', c', xs, b, t⟩ : Kv).Ok w3 w2.heap.size w3.heap.size) := Lib.hid ⟨hI, by show n' ≤ maxLen; unfold maxLen; omega, by show t.size ≤ maxLen; unfold maxLen; omega⟩
        have hs3 := D3.out.gro.size
        clear hG hI hR
        go_wp2_with (at_builtin; go_must (refine app_sib2 _ rfl (.tmp 25) (.tmp 28) rfl w3 w.heap.size hs3 (.slice (some ⟨gg, 0, none⟩) ks.length c) _ _ rfl D3.out.row (by omega) ⟨A', n', c', xs, b, t⟩ _ rfl rfl rfl ?_; intro g8 c8 w8 ho8 hb8 hs8 hat8 hfr8))
        have D8 := Lib.hid (D2.out.more hg HG3.out K3.out ho8 hb8 hs8 (hat8.imp (fun e => by injection e) id) (fun q hq hne => hfr8 q hq (fun e => hne (by injection e))))
        have R8 : Hid (Rd w8 g q3) := Lib.hid (R3.out.keep (fun q hq => hb8.block q (by omega)))
        clear ho8 hb8 hat8 hfr8
        go_wp2
        go_ret
        exact ⟨g8, c8, _, by simp, by simp; omega, D8.out, _, by omega, R8.out⟩
      · go_wp2
        go_ret
        exact ⟨gg, c, ks, rfl, by omega, D2.out, _, by omega, R2.out⟩

end Go.Proofs.YtldnpfkgehgfpaaDoor
