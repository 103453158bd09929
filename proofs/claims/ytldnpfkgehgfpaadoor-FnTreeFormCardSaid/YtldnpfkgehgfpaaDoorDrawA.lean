
/-
  Contracts of the reader of drawn numbers: l6Open, pick.
-/
import Derived.Test.YtldnpfkgehgfpaaDoorVvF
import Derived.Laws.BitsAllLaws
import Derived.Laws.BitsLemmas
import Derived.IntWalk
import Derived.OpenShut
namespace Go.Proofs.YtldnpfkgehgfpaaDoor
open Go.RowKit

/-- Block g is a reader at place p: its bytes lie below it. -/
def Rd (w : World) (g p : Nat) : Prop :=
  ∃ (A : Option Addr) (n c : Nat) (bs : List Int), w.heap[g]? = some (.cells #[.slice A n c, .int .i64 p] 40 (0, 0)) ∧ n ≤ 2000 ∧
    (0 < n → ∃ b off, A = some ⟨b, off, none⟩ ∧ b < g ∧ ∀ k, k < n → w.cell? ⟨b, off + k, none⟩ = some (.int .u8 (bs.getD k 0))) ∧ ∀ k, k < n → 0 ≤ bs.getD k 0 ∧ bs.getD k 0 ≤ 255

theorem Rd.lt {w : World} {g p : Nat} (h : Rd w g p) : g < w.heap.size := by
  obtain ⟨A, n, c, bs, hh, _⟩ := h
  exact (Array.getElem?_eq_some_iff.1 hh).1
theorem Rd.keep {w w' : World} {g p : Nat} (h : Rd w g p) (k : ∀ b, b ≤ g → w'.heap[b]? = w.heap[b]?) : Rd w' g p := by
  obtain ⟨A, n, c, bs, hh, hn, hb, hr⟩ := h
  refine ⟨A, n, c, bs, by rw [k g (Nat.le_refl _)]; exact hh, hn, fun h0 => ?_, hr⟩
  obtain ⟨b, off, e, hlt, hc⟩ := hb h0
  exact ⟨b, off, e, hlt, fun j hj => (World.cell?_of_block (w := w) (w' := w') (a := ⟨b, off + j, none⟩) (k b (by omega))).trans (hc j hj)⟩
theorem Rd.below {w w' : World} {g p : Nat} (h : Rd w g p) (hb : Below w.heap.size w w') : Rd w' g p := h.keep fun b hb' => hb.block b (by have := h.lt; omega)

/-- New blocks, and block g may have turned. -/
structure Gro (g : Nat) (w w' : World) : Prop where
  os : w'.os = w.os
  tape : w'.tape = w.tape
  output : w'.output = w.output
  size : w.heap.size ≤ w'.heap.size
  block : ∀ k, k < w.heap.size → k ≠ g → w'.heap[k]? = w.heap[k]?
theorem Gro.refl (g : Nat) (w : World) : Gro g w w := ⟨rfl, rfl, rfl, Nat.le_refl _, fun _ _ _ => rfl⟩
theorem Gro.trans {g : Nat} {a b c : World} (h : Gro g a b) (k : Gro g b c) : Gro g a c :=
  ⟨k.os.trans h.os, k.tape.trans h.tape, k.output.trans h.output, Nat.le_trans h.size k.size, fun i hi hn => (k.block i (Nat.lt_of_lt_of_le hi h.size) hn).trans (h.block i hi hn)⟩
theorem Gro.of_below {g : Nat} {w w' : World} (h : Below w.heap.size w w') : Gro g w w' := ⟨h.os, h.tape, h.output, h.size, fun k hk _ => h.block k hk⟩
theorem Gro.keep {g lo hi : Nat} {w w' : World} (h : Gro g w w') (h1 : g < lo ∨ hi ≤ g) (h2 : hi ≤ w.heap.size) : Keep lo hi w w' := fun b a c => h.block b (by omega) (by omega)
theorem Gro.below {g B : Nat} {w w' : World} (h : Gro g w w') (h1 : B ≤ g) (h2 : B ≤ w.heap.size) : Below B w w' := ⟨h.os, h.tape, h.output, h.size, fun k hk => h.block k (by omega) (by omega)⟩
theorem Gro.alloc {g : Nat} {a w : World} (h : Gro g a w) (o : Obj) : Gro g a (w.alloc o) := h.trans (.of_below ((Below.refl _ _).alloc (Nat.le_refl _) o))

theorem Rd.step {w : World} {g p : Nat} (h : Rd w g p) (q : Nat) :
    Gro g w ((w.setCell ⟨g, 1, none⟩ (.int .i64 ((p : Int) + 1))).drewN q) ∧ Rd ((w.setCell ⟨g, 1, none⟩ (.int .i64 ((p : Int) + 1))).drewN q) g (p + 1) := by
  obtain ⟨A, n, c, bs, hh, hn, hb, hr⟩ := h
  refine ⟨⟨rfl, rfl, rfl, by simp [World.setCell, World.drewN], fun k _ hk => ?_⟩, A, n, c, bs, ?_, hn, fun h0 => ?_, hr⟩
  · exact Below.heap_setCell w ⟨g, 1, none⟩ _ k hk
  · have := heap_setCell_same w g 1 _ _ (.int .i64 ((p : Int) + 1)) hh
    exact this
  · obtain ⟨b, off, e, hlt, hc⟩ := hb h0
    refine ⟨b, off, e, hlt, fun k hk => ?_⟩
    exact (World.cell?_setCell_other w ⟨g, 1, none⟩ ⟨b, off + k, none⟩ _ (fun e => by have := congrArg Addr.block e; simp at this; omega)).trans (hc k hk)

theorem ofInt_i64 (a : Nat) (ha : a < 9223372036854775808) : (BitVec.ofInt 64 (a : Int)).toNat = a := by
  rw [BitVec.ofInt_natCast, BitVec.toNat_ofNat]; exact Nat.mod_eq_of_lt (by omega)
theorem i64_xor (a b : Nat) (ha : a < 9223372036854775808) (hb : b < 9223372036854775808) : bits .xor .i64 (a : Int) (b : Int) = ((a ^^^ b : Nat) : Int) := by
  have hx : a ^^^ b < 2 ^ 63 := Nat.xor_lt_two_pow (by omega) (by omega)
  show IntKind.i64.wrap ((BitVec.ofInt 64 (a : Int) ^^^ BitVec.ofInt 64 (b : Int)).toNat : Int) = _
  rw [BitVec.toNat_xor, ofInt_i64 a ha, ofInt_i64 b hb, IntKind.wrap_i64]
  omega
/-- What pick makes of its mixture lies below m. -/
theorem pick_val (E m : Int) (h0 : 0 ≤ E) (h1 : E ≤ 1000000000) (hm : 1 ≤ m) : ∃ v : Nat, (bits .xor .i64 E (E / 64)).tmod m = (v : Int) ∧ (v : Int) < m := by
  obtain ⟨e, rfl⟩ := Int.eq_ofNat_of_zero_le h0
  have e64 : ((e : Int) / 64) = ((e / 64 : Nat) : Int) := by omega
  rw [e64, i64_xor e (e / 64) (by omega) (by omega), Int.tmod_eq_emod_of_nonneg (by omega)]
  refine ⟨(((e ^^^ e / 64 : Nat) : Int) % m).toNat, ?_, ?_⟩
  · have := Int.emod_nonneg ((e ^^^ e / 64 : Nat) : Int) (show m ≠ 0 by omega); omega
  · have := Int.emod_nonneg ((e ^^^ e / 64 : Nat) : Int) (show m ≠ 0 by omega)
    have := Int.emod_lt_of_pos ((e ^^^ e / 64 : Nat) : Int) (show 0 < m by omega)
    omega

set_option maxRecDepth 100000 in
theorem pick_any (g p : Nat) (m : Int) (w : World) (h : Rd w g p) (hp : p ≤ 1000000) (hm1 : 1 ≤ m) (hm2 : m ≤ 1000000) :
    Calls Tryd.prog 10 #[.pointer (some ⟨g, 0, none⟩), .int .i64 m] w fun e w' => ∃ v : Nat, e = .returned (.int .i64 (v : Int)) ∧ (v : Int) < m ∧ Gro g w w' ∧ Rd w' g (p + 1) := by
  have HS := Lib.hid h.step
  obtain ⟨A, n, c, bs, hh, hn, hb, hr⟩ := h
  have HB := Lib.hid hb
  have HR := Lib.hid hr
  have hw0 : w.cell? ⟨g, 0, none⟩ = some (.slice A n c) := by simp [World.cell?, hh]
  have hw1 : w.cell? ⟨g, 1, none⟩ = some (.int .i64 p) := by simp [World.cell?, hh]
  have hf : w.frozen? ⟨g, 1, none⟩ = false := by simp [World.frozen?, hh]
  clear hh hb hr
  by_cases h0 : n = 0
  · subst h0
    go_enter Tryd.func10, Tryd.ntmps10
    go_wp2
    go_ret
    exact ⟨0, rfl, by simp; omega, HS.out 0⟩
  · have hne : ((n : Int) == 0) = false := by simp; omega
    obtain ⟨b, off, rfl, hbg, hc⟩ := HB.out (by omega)
    by_cases hpn : p < n
    · have hy := HR.out p hpn
      have hcy := hc p hpn
      obtain ⟨y, hy'⟩ : ∃ y, y = bs.getD p 0 := ⟨_, rfl⟩
      rw [← hy'] at hcy hy
      obtain ⟨y0, y1⟩ := hy
      have hcy' : ∀ u, (w.setCell ⟨g, 1, none⟩ u).cell? ⟨b, off + p, none⟩ = some (.int .u8 y) := fun u => (World.cell?_setCell_other w _ _ _ (fun e => by have := congrArg Addr.block e; simp at this; omega)).trans hcy
      clear hc hy' hcy
      go_enter Tryd.func10, Tryd.ntmps10
      go_wp2
      go_ret
      refine ⟨(y % m).toNat, ?_, ?_, HS.out 0⟩
      · exact ret_int (by have := Int.emod_nonneg y (show m ≠ 0 by omega); omega)
      · have := Int.emod_nonneg y (show m ≠ 0 by omega)
        have := Int.emod_lt_of_pos y (show 0 < m by omega)
        omega
    · have q1 : p % n < n := Nat.mod_lt _ (by omega)
      have q2 : (p * 7 + 3) % n < n := Nat.mod_lt _ (by omega)
      have hy := HR.out _ q1
      have hcy := hc _ q1
      have hz := HR.out _ q2
      have hcz := hc _ q2
      obtain ⟨y, hy'⟩ : ∃ y, y = bs.getD (p % n) 0 := ⟨_, rfl⟩
      obtain ⟨z, hz'⟩ : ∃ y, y = bs.getD ((p * 7 + 3) % n) 0 := ⟨_, rfl⟩
      rw [← hy'] at hcy hy
      rw [← hz'] at hcz hz
      obtain ⟨y0, y1⟩ := hy
      obtain ⟨z0, z1⟩ := hz
      have hcy' : ∀ u, (w.setCell ⟨g, 1, none⟩ u).cell? ⟨b, off + p % n, none⟩ = some (.int .u8 y) := fun u => (World.cell?_setCell_other w _ _ _ (fun e => by have := congrArg Addr.block e; simp at this; omega)).trans hcy
      have hcz' : ∀ u, (w.setCell ⟨g, 1, none⟩ u).cell? ⟨b, off + (p * 7 + 3) % n, none⟩ = some (.int .u8 z) := fun u => (World.cell?_setCell_other w _ _ _ (fun e => by have := congrArg Addr.block e; simp at this; omega)).trans hcz
      clear hc hy' hcy hz' hcz
      have r1 : (0 : Int) ≤ (p : Int) % (n : Int) := by omega
      have r2 : (p : Int) % (n : Int) < (n : Int) := by omega
      have r3 : (0 : Int) ≤ ((p : Int) * 7 + 3) % (n : Int) := Int.emod_nonneg _ (by omega)
      have r5 : (0 : Int) ≤ (p : Int) / (n : Int) := Int.ediv_nonneg (by omega) (by omega)
      have r6 : (p : Int) / (n : Int) ≤ 1000000 := Int.le_trans (Int.ediv_le_self _ (by omega)) (by omega)
      have r4 : ((p : Int) * 7 + 3) % (n : Int) < (n : Int) := Int.emod_lt_of_pos _ (by omega)
      have PV := Lib.hid (pick_val (y * 131 + z * 1117 + (p : Int) * 29 + (p : Int) / (n : Int) * 53) m (by omega) (by omega) hm1)
      go_enter Tryd.func10, Tryd.ntmps10
      go_wp2
      go_quiet (fail)
      go_wp2
      go_ret
      obtain ⟨v, hv, hlt⟩ := PV.out
      exact ⟨v, ret_int hv, hlt, HS.out _⟩


theorem wf_u8 {n : Int} (h : (Lit.int .u8 n).wf = true) : 0 ≤ n ∧ n ≤ 255 := bounds_u8 h

set_option maxRecDepth 100000 in
theorem open_any (A : Option Addr) (n c : Nat) (zs : List Int) (w : World)
    (h : (A = none ∧ n = 0 ∧ c = 0 ∧ zs = []) ∨ ∃ x, A = some x ∧ n ≤ c ∧ c ≤ maxLen ∧ zs.length = c ∧ (∀ i, i < zs.length → w.cell? (x.add i) = some (.int .u8 (zs.getD i 0))) ∧ ∀ n ∈ zs, (Lit.int .u8 n).wf = true) :
    Calls Tryd.prog 8 #[.slice A n c] w fun e w' => ∃ g, e = .returned (.pointer (some ⟨g, 0, none⟩)) ∧ w.heap.size ≤ g ∧ Below w.heap.size w w' ∧ Rd w' g 0 := by
  have core : ∀ m, m ≤ n → m ≤ 2000 → Rd (w.alloc (.cells #[.slice A m c, .int .i64 0] 40)) w.heap.size 0 := by
    intro m hm hm2
    refine ⟨A, m, c, zs, heap_alloc_new w _, hm2, fun h0 => ?_, fun k hk => ?_⟩
    · rcases h with ⟨_, h2, _⟩ | ⟨x, rfl, hl, _, hz, hc, _⟩
      · omega
      · obtain ⟨b, off, spot⟩ := x
        have hc0 := hc 0 (by omega)
        have hspot : spot = none := by simpa [Addr.add] using World.cell?_spot hc0
        subst hspot
        have hadd : ∀ j, (⟨b, off, none⟩ : Addr).add j = ⟨b, off + j, none⟩ := by intro j; unfold Addr.add; split <;> simp_all
        have hlt : b < w.heap.size := by rw [hadd] at hc0; exact World.block_lt_of_cell? w _ hc0
        refine ⟨b, off, rfl, hlt, fun k hk => ?_⟩
        have := hc k (by omega)
        rw [hadd] at this
        exact (World.cell?_alloc_lt w _ ⟨b, off + k, none⟩ hlt).trans this
    · rcases h with ⟨_, h2, _⟩ | ⟨x, rfl, hl, _, hz, _, hw⟩
      · omega
      · have hk' : k < zs.length := by omega
        rw [List.getD_eq_getElem?_getD, List.getElem?_eq_getElem hk']
        exact wf_u8 (hw _ (List.getElem_mem hk'))
  have hcap : n ≤ c := by rcases h with ⟨_, h2, _⟩ | ⟨x, _, hl, _⟩ <;> omega
  have C := Lib.hid core
  clear core h
  by_cases hbig : 2000 < n
  · have i1 : (2000 : Int) < (n : Int) := by omega
    have i2 : (2000 : Int) ≤ (c : Int) := by omega
    go_enter Tryd.func8, Tryd.ntmps8
    go_wp2
    go_ret
    exact ⟨_, rfl, Nat.le_refl _, (Below.refl _ _).alloc (Nat.le_refl _) _, C.out 2000 (by omega) (Nat.le_refl _)⟩
  · go_enter Tryd.func8, Tryd.ntmps8
    go_wp2
    go_ret
    exact ⟨_, rfl, Nat.le_refl _, (Below.refl _ _).alloc (Nat.le_refl _) _, C.out n (Nat.le_refl _) (by omega)⟩

end Go.Proofs.YtldnpfkgehgfpaaDoor
