
/-
  Contracts of the helpers of the exact laws on lists of versions: szSibS, toSibS, eqSibS.
-/
import Derived.Test.YtlmjgbonoihccaaDoorSibK
import Derived.Test.YtlmjgbonoihccaaDoorSibC
import Derived.Test.YtlmjgbonoihccaaDoorSibE
namespace Go.Proofs.YtlmjgbonoihccaaDoor
open Go.RowKit Go.PlainAid

/-! ## Lists of versions that a call has made -/
theorem row_keep {w w' : World} {base : Nat} {e : TypeId} {size n : Nat} {v : Value} {xs : List Value} (h : w.ownsRow base e size v n xs) (k : ∀ g, v.ownBlock = some g → w'.heap[g]? = w.heap[g]?) : w'.ownsRow base e size v n xs := by
  refine ⟨h.1, ?_⟩
  rcases h.2 with h2 | ⟨g, cap, cur, hv, hb, hh, rest⟩
  · exact .inl h2
  · exact .inr ⟨g, cap, cur, hv, hb, by rw [k g (by rw [hv]; rfl)]; exact hh, rest⟩
theorem row_mono {w : World} {base base' : Nat} {e : TypeId} {size n : Nat} {v : Value} {xs : List Value} (h : w.ownsRow base e size v n xs) (hb : base' ≤ base) : w.ownsRow base' e size v n xs := by
  refine ⟨h.1, ?_⟩
  rcases h.2 with h2 | ⟨g, cap, cur, hv, hg, rest⟩
  · exact .inl h2
  · exact .inr ⟨g, cap, cur, hv, Nat.le_trans hb hg, rest⟩
theorem OwnInts.wide {w : World} {lo hi lo' hi' n c : Nat} {A : Option Addr} {xs : List Int} (h : OwnInts w lo hi A n c xs) (h1 : lo' ≤ lo) (h2 : hi ≤ hi') : OwnInts w lo' hi' A n c xs :=
  ⟨row_mono h.1 h1, fun g hg => Nat.lt_of_lt_of_le (h.2 g hg) h2⟩
theorem OwnInts.setC {w : World} {lo hi n c : Nat} {A : Option Addr} {xs : List Int} {q : Addr} {u : Value} (h : OwnInts w lo hi A n c xs) (hq : q.block < lo ∨ hi ≤ q.block) : OwnInts (w.setCell q u) lo hi A n c xs :=
  h.keep fun b h1 h2 => Below.heap_setCell w q u b (by omega)

/-- The counts of one lie in a block of the call's own. -/
def Kv.Own (w : World) (lo hi : Nat) (k : Kv) : Prop := OwnInts w lo hi k.A k.n k.c k.s.vv ∧ k.n ≤ 1048576 ∧ k.s.text.size ≤ maxLen
/-- The block of one's counts. -/
def Kv.blk (k : Kv) : Option Nat := (Value.slice k.A k.n k.c).ownBlock
/-- The counts of two lie in blocks of their own. -/
def Apart (a b : Kv) : Prop := ∀ g, a.blk = some g → b.blk ≠ some g
/-- A list of versions that a call has made: its row and the counts of each lie in blocks of their own. -/
structure OwnSibs (w : World) (lo hi : Nat) (A : Option Addr) (n c : Nat) (ks : List Kv) : Prop where
  row : w.ownsRow lo 31 3 (.slice A n c) n (flat ks)
  lt : ∀ g, (Value.slice A n c).ownBlock = some g → g < hi
  own : ∀ k ∈ ks, k.Own w lo hi
  off : ∀ k ∈ ks, ∀ g, (Value.slice A n c).ownBlock = some g → k.blk ≠ some g
  sep : ks.Pairwise Apart
section
variable {w w' : World} {lo hi lo' hi' n c : Nat} {A : Option Addr} {ks : List Kv} {k : Kv}
theorem Kv.Own.keep (h : k.Own w lo hi) (q : Keep lo hi w w') : k.Own w' lo hi := ⟨h.1.keep q, h.2⟩
theorem Kv.Own.wide (h : k.Own w lo hi) (h1 : lo' ≤ lo) (h2 : hi ≤ hi') : k.Own w lo' hi' := ⟨h.1.wide h1 h2, h.2⟩
theorem Kv.Own.ok (h : k.Own w lo hi) : k.Ok w lo hi := ⟨h.1.ints, by have := h.2.1; unfold maxLen; omega, h.2.2⟩
theorem OwnSibs.keep (h : OwnSibs w lo hi A n c ks) (q : Keep lo hi w w') : OwnSibs w' lo hi A n c ks :=
  ⟨row_keep h.row fun g hg => q g (h.row.lt g hg).1 (h.lt g hg), h.lt, fun k hk => (h.own k hk).keep q, h.off, h.sep⟩
theorem OwnSibs.wide (h : OwnSibs w lo hi A n c ks) (h1 : lo' ≤ lo) (h2 : hi ≤ hi') : OwnSibs w lo' hi' A n c ks :=
  ⟨row_mono h.row h1, fun g hg => Nat.lt_of_lt_of_le (h.lt g hg) h2, fun k hk => (h.own k hk).wide h1 h2, h.off, h.sep⟩
theorem OwnSibs.below {B : Nat} (h : OwnSibs w lo hi A n c ks) (hb : Below B w w') (hB : hi ≤ B) : OwnSibs w' lo hi A n c ks := h.keep (.of_below hb hB)
theorem OwnSibs.sibs (h : OwnSibs w lo hi A n c ks) : Sibs w lo hi A n ks := by
  refine ⟨⟨h.row.1, fun hn => ?_⟩, fun k hk => (h.own k hk).ok⟩
  obtain ⟨g, cap, hv, hb, _⟩ := h.row.form hn
  have hA : A = some ⟨g, 0, none⟩ := by injection hv
  subst hA
  refine ⟨g, 0, rfl, hb, h.lt g rfl, fun j u hu => ?_⟩
  have hc := h.row.cells (g := g) rfl j u hu
  have hadd : (⟨g, 0, none⟩ : Addr).add j = ⟨g, 0 + j, none⟩ := by unfold Addr.add; split <;> simp_all
  rw [hadd] at hc
  exact hc
theorem OwnSibs.hasS (h : OwnSibs w lo hi A n c ks) (hhi : hi ≤ w.heap.size) : HasS w A n ks := HasS.of h.sibs hhi
theorem OwnSibs.len (h : OwnSibs w lo hi A n c ks) : ks.length = n := h.sibs.len
end

/-- How many counts there are in all. -/
def totS : List Sb → Nat
  | [] => 0
  | s :: r => s.vv.length + totS r
theorem totS_append : ∀ (a b : List Sb), totS (a ++ b) = totS a + totS b
  | [], b => by simp [totS]
  | s :: r, b => by simp [totS, totS_append r b]; omega
theorem totS_take {ss : List Sb} {k : Nat} {x : Sb} (hx : ss[k]? = some x) : totS (ss.take (k + 1)) = totS (ss.take k) + x.vv.length := by
  obtain ⟨hk, rfl⟩ := List.getElem?_eq_some_iff.1 hx
  rw [List.take_succ_eq_append_getElem hk, totS_append]
  simp [totS]

set_option maxRecDepth 100000 in
theorem szSibS_any (A : Option Addr) (n c : Nat) (ks : List Kv) (left : Int) (w : World) (h : HasS w A n ks) (hn : n ≤ maxLen) (h0 : 0 ≤ left) (h1 : left ≤ 1048576) :
    Calls Tryd.prog 25 #[.slice A n c, .int .i64 left] w fun e w' => ∃ r : Int, e = .returned (.int .i64 r) ∧ (r = -1 ∨ (0 ≤ r ∧ r + n + totS (sbs ks) ≤ left ∧ ∀ k ∈ ks, k.n ≤ 1048576)) ∧ Below w.heap.size w w' := by
  unfold maxLen at hn
  have H := Lib.hid h
  have HL := Lib.hid h.len
  have hw : IntKind.i64.wrap (left - (n : Int)) = left - (n : Int) := IntWalk.i64_in _ (by omega)
  clear h
  by_cases hb : left - (n : Int) < 0
  · go_enter Tryd.func25, Tryd.ntmps25
    go_wp2
    go_ret
    exact ⟨-1, rfl, .inl rfl, Below.refl _ _⟩
  · go_enter Tryd.func25, Tryd.ntmps25
    go_wp2
    go_loopw [5, 1] (fun i v wr => ∃ (k : Nat) (l : Int), k ≤ n ∧ i = .int .i64 k ∧ v = .int .i64 l ∧ 0 ≤ l ∧ l + n + totS ((sbs ks).take k) ≤ left ∧ Hid (Below w.heap.size w wr) ∧ Hid (∀ j x, j < k → ks[j]? = some x → x.n ≤ 1048576)) (fun i _ _ => n - (intOf i).toNat)
    case atStart => exact ⟨0, _, Nat.zero_le _, rfl, rfl, by omega, by simp [totS], Below.refl _ _, fun j x hj => absurd hj (by omega)⟩
    case round =>
      obtain ⟨k, l, hk, rfl, rfl, hl0, hl1, HB, hall⟩ := hrel
      clear hw hb
      by_cases hlt : k < n
      · obtain ⟨b, off, A', n', c', vv, g, t, rfl, hbl, c0, c1, c2, I, hn', ht', hx⟩ := H.out.at_ hlt
        have q0 := cell_upC HB.out c0
        have q1 := cell_upC HB.out c1
        have q2 := cell_upC HB.out c2
        have ht1 := totS_take (sbs_at hx.out)
        have hl1 : vv.length = n' := I.len
        clear c0 c1 c2 I
        go_wp2_with fail
        refine (szSib_any A' n' c' g t l _ hn' ht' hl0 (by omega)).mono ?_
        rintro e w2 ⟨r, rfl, hr, hb⟩
        have HB2 := Lib.hid (HB.out.trans (hb.mono HB.out.size))
        clear hb q0 q1 q2
        rcases hr with rfl | ⟨hr0, hr1⟩
        · go_wp2
          go_ret
          exact ⟨-1, rfl, .inl rfl, HB2.out⟩
        · have i0 : ¬ r < 0 := by omega
          go_wp2
          go_roundw
          case rel =>
            refine ⟨k + 1, r, by omega, by go_num, rfl, hr0, by rw [ht1]; show r + (n : Int) + ((totS ((sbs ks).take k) + vv.length : Nat) : Int) ≤ left; omega, HB2.out, fun j x hj hjx => ?_⟩
            by_cases e : j = k
            · subst e
              rw [hx.out] at hjx
              injection hjx with hjx
              subst hjx
              show n' ≤ 1048576
              omega
            · exact hall.out j x (by omega) hjx
          case measure => simp [intOf]; omega
      · go_wp2
        go_ret
        refine ⟨l, rfl, .inr ⟨hl0, by rw [List.take_of_length_le (by rw [sbs_len, HL.out]; omega)] at hl1; exact hl1, fun x hx => ?_⟩, HB.out⟩
        obtain ⟨j, hj, rfl⟩ := List.getElem_of_mem hx
        exact hall.out j _ (by rw [HL.out] at hj; omega) (List.getElem?_eq_getElem hj)

set_option maxRecDepth 100000 in
/-- toSib, with the counts in a block of the call's own. -/
theorem toSibO_any (A : Option Addr) (n c : Nat) (xs : List Int) (g : Bool) (t : ByteArray) (w : World) (h : Has w A n xs) (hn : n ≤ 1048576) :
    Calls Tryd.prog 62 #[.agg #[.slice A n c, .bool g, .string t]] w fun e w' => ∃ b, e = .returned (.agg #[.slice (some ⟨b, 0, none⟩) n n, .bool g, .string t]) ∧ Below w.heap.size w w' ∧ OwnInts w' w.heap.size w'.heap.size (some ⟨b, 0, none⟩) n n xs := by
  have hW := Lib.hid (((bel_alloc w (.cells #[.slice A n c, .bool g, .string t] 68)).alloc (by simp) (.cells #[.slice none 0 0, .bool false, .string ⟨#[]⟩] 31)).alloc (by simp; omega) (.cells #[.slice none 0 0, .bool false, .string ⟨#[]⟩] 31))
  have H := Lib.hid (h.step hW.out)
  have V1 := Lib.hid (((Var3.new 68 w (.slice A n c) (.bool g) (.string t)).alloc (.cells #[.slice none 0 0, .bool false, .string ⟨#[]⟩] 31)).alloc (.cells #[.slice none 0 0, .bool false, .string ⟨#[]⟩] 31))
  have V2 := Lib.hid ((Var3.new 31 (w.alloc (.cells #[.slice A n c, .bool g, .string t] 68)) (.slice none 0 0) (.bool false) (.string ⟨#[]⟩)).alloc (.cells #[.slice none 0 0, .bool false, .string ⟨#[]⟩] 31))
  have V3 := Lib.hid (Var3.new 31 ((w.alloc (.cells #[.slice A n c, .bool g, .string t] 68)).alloc (.cells #[.slice none 0 0, .bool false, .string ⟨#[]⟩] 31)) (.slice none 0 0) (.bool false) (.string ⟨#[]⟩))
  clear h
  go_enter Tryd.func62, Tryd.ntmps62
  go_wp2_with fail
  refine (toIntS_any A n c xs _ _ _ H.out (Nat.le_refl _) hn).mono ?_
  rintro e w1 ⟨b, rfl, hb, ho⟩
  have I1 : Hid (OwnInts w1 (w.heap.size + 3) w1.heap.size (some ⟨b, 0, none⟩) n n xs) := Lib.hid (OwnInts.of (by simpa using ho) (Nat.le_refl _))
  have U1 : Var3 68 w1 w.heap.size (.slice A n c) (.bool g) (.string t) := V1.out.step hb
  have U2 : Var3 31 w1 (w.heap.size + 1) (.slice none 0 0) (.bool false) (.string ⟨#[]⟩) := by simpa using V2.out.step hb
  have U3 : Var3 31 w1 (w.heap.size + 1 + 1) (.slice none 0 0) (.bool false) (.string ⟨#[]⟩) := by simpa using V3.out.step hb
  have HB := Lib.hid (hW.out.trans (hb.mono (by simp; omega)))
  have hsz : w.heap.size + 3 ≤ w1.heap.size := by have := hb.size; simp at this; omega
  have p1 := U1.c0
  have p2 := U1.c1
  have p3 := U1.c2
  have q1 := U2.c0
  have q2 := U2.c1
  have q3 := U2.c2
  have r1 := U3.c0
  have r2 := U3.c1
  have r3 := U3.c2
  have f2 := U2.f 0
  have f3 := U2.f 1
  have f4 := U2.f 2
  have g2 := U3.f 0
  have g3 := U3.f 1
  have g4 := U3.f 2
  clear hb ho U1 U2 U3
  go_wp2
  refine bodyPost_ret (v := .agg #[.slice (some ⟨b, 0, none⟩) n n, .bool g, .string t]) (by simp [results, Tryd.results62, go_sem, q1, q2, q3]) rfl ⟨b, rfl, ?_, ?_⟩
  · exact (((((HB.out.setCell (by simp; omega) _).setCell (by simp; omega) _).setCell (by simp; omega) _).setCell (by simp) _).setCell (by simp) _).setCell (by simp) _
  · refine OwnInts.wide (hi := w1.heap.size) ((((((I1.out.setC ?_).setC ?_).setC ?_).setC ?_).setC ?_).setC ?_) (by omega) (by simp [World.setCell])
    all_goals (left; simp)

theorem infoSib : (Tryd.prog.info? 31).map (fun i => (i.zero, i.size, i.bytes)) = some (some (.agg #[.slice none 0 0, .bool false, .string ⟨#[]⟩]), 3, 48) := by kernel_rfl

/-- The first of a list of n, the others zero. -/
def rowTo (ks : List Kv) (n : Nat) : List Value := flat ks ++ (List.replicate (n - ks.length) [.slice none 0 0, .bool false, .string ⟨#[]⟩]).flatten
theorem zeros_at (z0 z1 z2 : Value) : ∀ (n j : Nat), j < n * 3 → ((List.replicate n [z0, z1, z2]).flatten)[j]? = some (#[z0, z1, z2][j % 3]!)
  | 0, j, h => by omega
  | n + 1, j, h => by
    rw [List.replicate_succ, List.flatten_cons]
    match j, h with
    | 0, _ => rfl
    | 1, _ => rfl
    | 2, _ => rfl
    | j + 3, h =>
      have := zeros_at z0 z1 z2 n j (by omega)
      rw [show (j + 3) % 3 = j % 3 by omega]
      simpa using this
theorem made3 (z0 z1 z2 : Value) (n : Nat) : (madeCells #[z0, z1, z2] (n * 3)).toList = (List.replicate n [z0, z1, z2]).flatten := by
  apply List.ext_getElem?
  intro j
  by_cases hj : j < n * 3
  · rw [zeros_at z0 z1 z2 n j hj]
    simp [madeCells, hj]
  · rw [List.getElem?_eq_none (by simp [size_madeCells]; omega), List.getElem?_eq_none (by simp; omega)]
theorem rowTo_nil (n : Nat) : rowTo [] n = (List.replicate n [.slice none 0 0, .bool false, .string ⟨#[]⟩]).flatten := by simp [rowTo, flat]
theorem rowTo_all {ks : List Kv} {n : Nat} (h : ks.length = n) : rowTo ks n = flat ks := by simp [rowTo, h]
theorem rowTo_cut {ks : List Kv} {n : Nat} (h : ks.length < n) : rowTo ks n = flat ks ++ .slice none 0 0 :: .bool false :: .string ⟨#[]⟩ :: (List.replicate (n - (ks.length + 1)) [.slice none 0 0, .bool false, .string ⟨#[]⟩]).flatten := by
  unfold rowTo
  rw [show n - ks.length = (n - (ks.length + 1)) + 1 by omega, List.replicate_succ, List.flatten_cons]
  rfl
theorem rowTo_at {ks : List Kv} {n : Nat} (h : ks.length < n) : (rowTo ks n)[ks.length * 3]? = some (.slice none 0 0) ∧ (rowTo ks n)[ks.length * 3 + 1]? = some (.bool false) ∧ (rowTo ks n)[ks.length * 3 + 2]? = some (.string ⟨#[]⟩) := by
  rw [rowTo_cut h, ← flat_len]
  refine ⟨?_, ?_, ?_⟩ <;> simp
theorem rowTo_set {ks : List Kv} {n : Nat} (h : ks.length < n) (k : Kv) :
    (((rowTo ks n).set (ks.length * 3) (.slice k.A k.n k.c)).set (ks.length * 3 + 1) (.bool k.s.gone)).set (ks.length * 3 + 2) (.string k.s.text) = rowTo (ks ++ [k]) n := by
  rw [rowTo_cut h, ← flat_len]
  simp [rowTo, flat_append, flat_one]

set_option maxRecDepth 100000 in
theorem toSibS_any (A : Option Addr) (n c : Nat) (ks : List Kv) (w : World) (h : HasS w A n ks) (hn : n ≤ 1048576) (hks : ∀ k ∈ ks, k.n ≤ 1048576) :
    Calls Tryd.prog 27 #[.slice A n c] w fun e w' => ∃ g ks', e = .returned (.slice (some ⟨g, 0, none⟩) n n) ∧ Below w.heap.size w w' ∧ OwnSibs w' w.heap.size w'.heap.size (some ⟨g, 0, none⟩) n n ks' ∧ sbs ks' = sbs ks := by
  obtain ⟨i0, hi0, hz0, hz1, hz2⟩ := info_parts infoSib
  have HL := Lib.hid h.len
  have H := Lib.hid h
  have HK := Lib.hid hks
  have G2 := Lib.hid hz2
  clear h hks hz2
  go_enter Tryd.func27, Tryd.ntmps27
  go_wp2_with (at_make; refine wpList_make_full _ rfl _ _ 23 rfl w.heap.size 31 i0 (.agg #[.slice none 0 0, .bool false, .string ⟨#[]⟩]) 3 Tryd.underlying23 hi0 hz0 hz1 .i64 .i64 _ _ n rfl rfl rfl rfl (by rw [G2.out]; omega) (by unfold maxLen; omega) (by simp) ?_; intro w1 hown1 hg1)
  have hb1 : Below w.heap.size w w1 := (Below.refl _ _).grown hg1 (Nat.le_refl _) (by simp)
  have hown : w1.ownsRow w.heap.size 31 3 (.slice (some ⟨w.heap.size, 0, none⟩) n n) n (rowTo [] n) := by
    have e : (madeCells (Value.cells (.agg #[.slice none 0 0, .bool false, .string ⟨#[]⟩])) (n * 3)).toList = rowTo [] n := by rw [rowTo_nil, ← made3]; rfl
    rw [← e]; exact hown1
  clear hown1 hg1
  go_loopw [4] (fun i wr => ∃ ks1 : List Kv, ks1.length ≤ n ∧ i = .int .i64 ks1.length ∧ Hid (sbs ks1 = (sbs ks).take ks1.length) ∧ Hid (Below w.heap.size w wr) ∧ Hid (wr.ownsRow w.heap.size 31 3 (.slice (some ⟨w.heap.size, 0, none⟩) n n) n (rowTo ks1 n)) ∧ Hid (∀ k ∈ ks1, k.Own wr (w.heap.size + 1) wr.heap.size) ∧ Hid (ks1.Pairwise Apart)) (fun i _ => n - (intOf i).toNat)
  case atStart => exact ⟨[], Nat.zero_le _, rfl, rfl, hb1, hown, (fun k hk => by cases hk), List.Pairwise.nil⟩
  case round =>
    obtain ⟨ks1, hk, rfl, HS, HB, HO, HA, HP⟩ := hrel
    clear hb1 hown
    obtain ⟨k, hkl⟩ : ∃ k, k = ks1.length := ⟨_, rfl⟩
    by_cases hlt : k < n
    · obtain ⟨b, off, A', n', c', vv, g, t, rfl, hbl, c0, c1, c2, I, hn', ht', hx⟩ := H.out.at_ hlt
      have q0 := cell_upC HB.out c0
      have q1 := cell_upC HB.out c1
      have q2 := cell_upC HB.out c2
      have IR := Lib.hid (I.step HB.out)
      have hsz := HB.out.size
      have hwl : w.heap.size < wr.heap.size := (HO.out.lt _ rfl).2
      have HN' := Lib.hid (HK.out _ (List.mem_of_getElem? hx.out))
      rw [← hkl]
      have HKL := Lib.hid hkl
      clear c0 c1 c2 I hkl
      go_wp2_with fail
      refine (toSibO_any A' n' c' vv g t _ IR.out HN'.out).mono ?_
      rintro e w2 ⟨b2, rfl, hb, ho⟩
      have HO2 := row_keep HO.out (fun g hg => hb.block g (by rw [show g = w.heap.size by injection hg with hg; exact hg.symm]; exact hwl))
      have HA2 := Lib.hid (fun k hk => (HA.out k hk).keep (Keep.of_below hb (Nat.le_refl _)))
      have HB2 := Lib.hid (HB.out.trans (hb.mono HB.out.size))
      have HW2 := Lib.hid ho
      have hs2 := hb.size
      obtain ⟨z0, z1, z2⟩ := rowTo_at (ks := ks1) (n := n) (by rw [← HKL.out]; exact hlt)
      rw [← HKL.out] at z0 z1 z2
      have s0 := (HO2.cellAt (k * 3) (by omega)).trans z0
      have s1 := (HO2.cellAt (k * 3 + 1) (by omega)).trans z1
      have s2 := (HO2.cellAt (k * 3 + 2) (by omega)).trans z2
      have f0 := HO2.frozenAt (k * 3)
      have f1 := HO2.frozenAt (k * 3 + 1)
      have f2 := HO2.frozenAt (k * 3 + 2)
      have HOH := Lib.hid HO2
      clear hb ho HO2 z0 z1 z2 q0 q1 q2
      go_wp2
      go_roundw
      case rel =>
        have hlt' : ks1.length < n := by rw [← HKL.out]; exact hlt
        refine ⟨ks1 ++ [⟨some ⟨b2, 0, none⟩, n', n', vv, g, t⟩], by simp; omega, by simp [HKL.out], ?_, ((HB2.out.setCell (p := ⟨w.heap.size, k * 3, none⟩) (Nat.le_refl _) _).setCell (p := ⟨w.heap.size, k * 3 + 1, none⟩) (Nat.le_refl _) _).setCell (p := ⟨w.heap.size, k * 3 + 2, none⟩) (Nat.le_refl _) _, ?_, ?_, ?_⟩
        · show sbs _ = _
          have hk1 : k < (sbs ks).length := by rw [sbs_len, HL.out]; exact hlt
          rw [sbs_append, HS.out, List.length_append, ← HKL.out]
          show _ ++ [(⟨vv, g, t⟩ : Sb)] = List.take (k + 1) (sbs ks)
          rw [List.take_succ_eq_append_getElem hk1]
          have := sbs_at hx.out
          rw [List.getElem?_eq_getElem hk1] at this
          injection this with this
          rw [this]
        · have e := rowTo_set hlt' ⟨some ⟨b2, 0, none⟩, n', n', vv, g, t⟩
          rw [← HKL.out] at e
          rw [← e]
          exact ((((HOH.out.stored (k * 3) _).1).stored (k * 3 + 1) _).1.stored (k * 3 + 2) _).1
        · intro k' hk'
          have hset : Keep (w.heap.size + 1) w2.heap.size w2 (((w2.setCell ⟨w.heap.size, k * 3, none⟩ (.slice (some ⟨b2, 0, none⟩) n' n')).setCell ⟨w.heap.size, k * 3 + 1, none⟩ (.bool g)).setCell ⟨w.heap.size, k * 3 + 2, none⟩ (.string t)) := fun b h1 _ =>
            (Below.heap_setCell _ ⟨w.heap.size, k * 3 + 2, none⟩ _ b (by show b ≠ w.heap.size; omega)).trans ((Below.heap_setCell _ ⟨w.heap.size, k * 3 + 1, none⟩ _ b (by show b ≠ w.heap.size; omega)).trans (Below.heap_setCell _ ⟨w.heap.size, k * 3, none⟩ _ b (by show b ≠ w.heap.size; omega)))
          have hk2 : k'.Own w2 (w.heap.size + 1) w2.heap.size := by
            rcases List.mem_append.1 hk' with hk' | hk'
            · exact (HA2.out k' hk').wide (Nat.le_refl _) hs2
            · rw [List.mem_singleton] at hk'
              subst hk'
              exact ⟨HW2.out.wide (by omega) (Nat.le_refl _), HN'.out, ht'⟩
          have := hk2.keep hset
          rw [show (((w2.setCell ⟨w.heap.size, k * 3, none⟩ (.slice (some ⟨b2, 0, none⟩) n' n')).setCell ⟨w.heap.size, k * 3 + 1, none⟩ (.bool g)).setCell ⟨w.heap.size, k * 3 + 2, none⟩ (.string t)).heap.size = w2.heap.size by simp [World.setCell]]
          exact this
        · refine List.pairwise_append.2 ⟨HP.out, List.pairwise_singleton _ _, fun a ha b hb gg hg he => ?_⟩
          rw [List.mem_singleton] at hb
          subst hb
          have h1 := (HA2.out a ha).1.2 gg hg
          have h2 := (HW2.out.1.lt gg he).1
          omega
      case measure => have := HKL.out; simp [intOf]; omega
    · go_wp2
      go_ret
      have e : ks1.length = n := by omega
      have HO' := HO.out
      rw [rowTo_all e] at HO'
      refine ⟨w.heap.size, ks1, rfl, HB.out, ⟨HO', fun g hg => (HO'.lt g hg).2, fun k' hk' => (HA.out k' hk').wide (by omega) (Nat.le_refl _), fun k' hk' g hg he => ?_, HP.out⟩, ?_⟩
      · injection hg with hg
        have h1 := ((HA.out k' hk').1.1.lt g he).1
        have h2 : w.heap.size = g := hg
        omega
      · rw [HS.out, e, List.take_of_length_le (by rw [sbs_len, HL.out]; exact Nat.le_refl _)]

theorem cell_upE {w w' : World} {a : Addr} {v : Value} (hb : Below w.heap.size w w') (h : w.cell? a = some v) : w'.cell? a = some v := (hb.cell (World.block_lt_of_cell? w _ h)).trans h
theorem sbs_ne {a b : List Sb} {k : Nat} {x y : Sb} (hx : a[k]? = some x) (hy : b[k]? = some y) (h : x ≠ y) : a ≠ b := by
  rintro rfl
  rw [hx] at hy
  injection hy with hy
  exact h hy
instance : DecidableEq Sb := fun a b => if h : a.vv = b.vv ∧ a.gone = b.gone ∧ a.text = b.text then isTrue (Sb.ext_ h.1 h.2.1 h.2.2) else isFalse (fun e => h (by subst e; exact ⟨rfl, rfl, rfl⟩))
theorem eq_sb (xs ys : List Int) (g g' : Bool) (t u : ByteArray) : (decide (xs = ys) && (g == g') && (t.toList == u.toList)) = decide ((⟨xs, g, t⟩ : Sb) = ⟨ys, g', u⟩) := by
  rw [Bool.eq_iff_iff, Bool.and_eq_true, Bool.and_eq_true, decide_eq_true_eq, decide_eq_true_eq, beq_iff_eq, beq_iff_eq, Lib.toList_data, Lib.toList_data]
  constructor
  · rintro ⟨⟨h1, h2⟩, h3⟩
    exact Sb.ext_ h1 h2 (by cases t; cases u; simp at h3; simp [h3])
  · intro h
    injection h with h1 h2 h3
    exact ⟨⟨h1, h2⟩, by rw [h3]⟩
theorem sbs_eq {a b : List Sb} {n : Nat} (ha : a.length = n) (hb : b.length = n) (h : ∀ j x y, j < n → a[j]? = some x → b[j]? = some y → x = y) : a = b := by
  apply List.ext_getElem (by omega)
  intro j h1 h2
  exact h j _ _ (by omega) (List.getElem?_eq_getElem h1) (List.getElem?_eq_getElem h2)

set_option maxRecDepth 100000 in
set_option maxHeartbeats 1600000 in
theorem eqSibS_any (A B : Option Addr) (n m c d : Nat) (ks ls : List Kv) (w : World) (h1 : HasS w A n ks) (h2 : HasS w B m ls) (hn : n ≤ maxLen) :
    Calls Tryd.prog 28 #[.slice A n c, .slice B m d] w fun e w' => e = .returned (.bool (decide (sbs ks = sbs ls))) ∧ Below w.heap.size w w' := by
  unfold maxLen at hn
  have L1 := Lib.hid h1.len
  have L2 := Lib.hid h2.len
  have H1 := Lib.hid h1
  have H2 := Lib.hid h2
  clear h1 h2
  by_cases hl : n = m
  · subst hl
    go_enter Tryd.func28, Tryd.ntmps28
    go_wp2
    go_loopw [5] (fun i wr => ∃ k : Nat, k ≤ n ∧ i = .int .i64 k ∧ Hid (Below w.heap.size w wr) ∧ Hid (∀ j x y, j < k → (sbs ks)[j]? = some x → (sbs ls)[j]? = some y → x = y)) (fun i _ => n - (intOf i).toNat)
    case atStart => exact ⟨0, Nat.zero_le _, rfl, Below.refl _ _, fun j x y hj => absurd hj (by omega)⟩
    case round =>
      obtain ⟨k, hk, rfl, HB, hall⟩ := hrel
      by_cases hlt : k < n
      · obtain ⟨b, off, A', n', c', vv, g, t, rfl, hbl, c0, c1, c2, I, hn', ht', hx⟩ := H1.out.at_ hlt
        obtain ⟨b', off', A2, n2, c2', vv2, g2, t2, rfl, hbl', d0, d1, d2, J, hn2, ht2, hy⟩ := H2.out.at_ hlt
        have Q0 := Lib.hid (cell_upE HB.out c0)
        have Q1 := Lib.hid (cell_upE HB.out c1)
        have Q2 := Lib.hid (cell_upE HB.out c2)
        have P0 := Lib.hid (cell_upE HB.out d0)
        have P1 := Lib.hid (cell_upE HB.out d1)
        have P2 := Lib.hid (cell_upE HB.out d2)
        have IR := Lib.hid (I.step HB.out)
        have JR := Lib.hid (J.step HB.out)
        have i1 : (k : Int) < (n : Int) := by omega
        have i2 : (0 : Int) ≤ (k : Int) := by omega
        obtain ⟨z, hz⟩ : ∃ z, decide ((⟨vv, g, t⟩ : Sb) = ⟨vv2, g2, t2⟩) = z := ⟨_, rfl⟩
        clear c0 c1 c2 d0 d1 d2 I J
        go_wp2
        go_region_held3 (fun w' => w'.cell? ⟨b, off + k * 3, none⟩ = some (.slice A' n' c') ∧ w'.cell? ⟨b, off + k * 3 + 1, none⟩ = some (.bool g) ∧ w'.cell? ⟨b, off + k * 3 + 2, none⟩ = some (.string t) ∧ w'.cell? ⟨b', off' + k * 3, none⟩ = some (.slice A2 n2 c2') ∧ w'.cell? ⟨b', off' + k * 3 + 1, none⟩ = some (.bool g2) ∧ w'.cell? ⟨b', off' + k * 3 + 2, none⟩ = some (.string t2) ∧ Has w' A' n' vv ∧ Has w' A2 n2 vv2 ∧ Below w.heap.size w w')
          (first
            | exact ⟨by exact Q0.out, by exact Q1.out, by exact Q2.out, by exact P0.out, by exact P1.out, by exact P2.out, by exact IR.out, by exact JR.out, HB.out.drew⟩
            | (go_split_ands
               exact ⟨cell_upE hb (by assumption), cell_upE hb (by assumption), cell_upE hb (by assumption), cell_upE hb (by assumption), cell_upE hb (by assumption), cell_upE hb (by assumption), Has.step (by assumption) hb, Has.step (by assumption) hb, Below.trans (by assumption) (hb.mono (Below.size (by assumption)))⟩))
          (first
            | (go_at_call 63; go_split_ands; refine (eqSib_any _ _ _ _ _ _ vv vv2 _ _ _ _ _ (by assumption) (by assumption) hn').mono ?_; rintro e w6 ⟨rfl, hb⟩; rw [eq_sb, hz]))
        go_split_ands
        cases z
        · go_wp2
          go_ret
          exact ⟨ret_bool (by rw [eq_comm, decide_eq_false_iff_not]; exact sbs_ne (sbs_at hx.out) (sbs_at hy.out) (of_decide_eq_false hz)), by assumption⟩
        · go_wp2
          go_roundw
          case rel =>
            refine ⟨k + 1, by omega, by go_num, by assumption, fun j x y hj hjx hjy => ?_⟩
            by_cases e : j = k
            · subst e
              rw [sbs_at hx.out] at hjx
              rw [sbs_at hy.out] at hjy
              injection hjx with hjx
              injection hjy with hjy
              rw [← hjx, ← hjy]
              exact of_decide_eq_true hz
            · exact hall.out j x y (by omega) hjx hjy
          case measure => simp [intOf]; omega
      · go_wp2
        go_ret
        exact ⟨ret_bool (by rw [eq_comm, decide_eq_true_eq]; exact sbs_eq (n := n) (by rw [sbs_len, L1.out]) (by rw [sbs_len, L2.out]) (fun j x y hj => hall.out j x y (by omega))), HB.out⟩
  · have hne : ((n : Int) != (m : Int)) = true := by simp; omega
    have HN := Lib.hid hl
    clear hl
    go_enter Tryd.func28, Tryd.ntmps28
    go_wp2
    go_ret
    exact ⟨ret_bool (by rw [eq_comm, decide_eq_false_iff_not]; intro e; have := congrArg List.length e; rw [sbs_len, sbs_len, L1.out, L2.out] at this; exact HN.out this), Below.refl _ _⟩

end Go.Proofs.YtlmjgbonoihccaaDoor
