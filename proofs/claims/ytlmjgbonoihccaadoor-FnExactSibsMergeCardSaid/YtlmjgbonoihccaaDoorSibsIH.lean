
/-
  Contract of heldSibS.
-/
import Derived.Test.YtlmjgbonoihccaaDoorSibsI
namespace Go.Proofs.YtlmjgbonoihccaaDoor
open Go.RowKit Go.PlainAid

theorem smarks_at : ∀ {ss : List Sb} {k j : Nat} {x : Sb}, ss[j]? = some x → (smarks k ss)[j]? = some (smarkOne (posTo ss k j) x)
  | [], k, j, x, h => by simp at h
  | s :: r, k, 0, x, h => by
    simp at h; subst h
    simp [smarks, posTo, totS, smarkOne]
  | s :: r, k, j + 1, x, h => by
    have ih := smarks_at (ss := r) (k := k + s.vv.length + 2) (j := j) (x := x) (by simpa using h)
    simp only [smarks, List.getElem?_cons_succ, ih]
    have e : posTo r (k + s.vv.length + 2) j = posTo (s :: r) k (j + 1) := by simp [posTo, totS]; omega
    rw [e]

set_option maxRecDepth 100000 in
set_option maxHeartbeats 3200000 in
theorem heldSibS_any (A : Option Addr) (n c : Nat) (ks : List Kv) (ss : List Sb) (k : Nat) (w : World) (lo hi : Nat) (h : OwnSibs w lo hi A n c ks) (hhi : hi ≤ w.heap.size) (hss : sbs ks = smarks k ss) (h1 : 1 ≤ k) (hk : k ≤ 10000000) (hn : n ≤ 1048576) (ht : totS ss ≤ 1048576) :
    Calls Tryd.prog 30 #[.slice A n c, .int .i64 k] w fun e w' => e = .returned (.int .i64 ((posTo ss k n : Nat) : Int)) ∧ Below w.heap.size w w' := by
  have H := Lib.hid h
  have HS := Lib.hid hss
  have LS : Hid (ss.length = n) := Lib.hid (by rw [← h.len, ← sbs_len ks, hss, smarks_len])
  clear h hss
  go_enter Tryd.func30, Tryd.ntmps30
  go_wp2
  go_loopw [5, 1] (fun i v wr => ∃ (j p : Nat), j ≤ n ∧ i = .int .i64 j ∧ v = .int .i64 p ∧ Hid (p = posTo ss k j) ∧ Hid (Below w.heap.size w wr)) (fun i _ _ => n - (intOf i).toNat)
  case atStart => exact ⟨0, k, Nat.zero_le _, rfl, rfl, (by show k = posTo ss k 0; simp [posTo, totS]), Below.refl _ _⟩
  case round =>
    obtain ⟨j, p, hj, rfl, rfl, HP, HB⟩ := hrel
    by_cases hlt : j < n
    · have HO := H.out.below HB.out hhi
      obtain ⟨g, rfl, hg1, hg2⟩ := own_head HO (by omega)
      have hjl : j < ks.length := by have := HO.len; omega
      obtain ⟨⟨A', n', c', ⟨vv, gg, t⟩⟩, hx⟩ : ∃ x, ks[j]? = some x := ⟨_, List.getElem?_eq_getElem hjl⟩
      obtain ⟨x, hxs⟩ : ∃ y, ss[j]? = some y := ⟨_, List.getElem?_eq_getElem (by rw [LS.out]; exact hlt)⟩
      obtain ⟨c0, c1, c2⟩ := own_at HO hx
      have ho := HO.own _ (List.mem_of_getElem? hx)
      have hm : (⟨vv, gg, t⟩ : Sb) = smarkOne p x := by
        have h1 := smarks_at (k := k) hxs
        rw [← HS.out, sbs_at hx, ← HP.out] at h1
        injection h1
      have hlen : vv.length = n' := ho.1.len
      unfold smarkOne at hm
      injection hm with hm1 hm2 hm3
      have hxl : x.vv.length = n' := by rw [← hlen, hm1, marks_len]
      rw [hxl] at hm1 hm2 hm3
      have hpn : p ≤ 13200000 := by
        have := totS_le (ss := ss) j
        have := HP.out
        unfold posTo at this
        omega
      have hI : Ints wr lo hi A' n' (marks (p : Int) n') := by rw [← hm1]; exact ho.1.ints
      have hn' : n' ≤ 1048576 := ho.2.1
      have eb : (((p : Int) + (n' : Int)) % 3 == 0) = gg := by rw [hm2, Bool.eq_iff_iff, beq_iff_eq, decide_eq_true_eq]; omega
      have ecast : (p : Int) + (n' : Int) + 1 = ((p + n' + 1 : Nat) : Int) := by omega
      have HT := Lib.hid hm3
      have EC := Lib.hid ecast
      have HX := Lib.hid hxs
      have HXL := Lib.hid hxl
      have HI := Lib.hid hI
      have C2 := Lib.hid c2
      have i1 : (j : Int) < (n : Int) := by omega
      have i2 : (0 : Int) ≤ (j : Int) := by omega
      clear hx hxs hm1 hm2 hm3 hxl hlen ecast ho HO hI
      go_wp2_with fail
      refine (heldIntS_any A' n' c' p _ lo hi HI.out (by omega) (by omega) hn').mono ?_
      rintro e w2 ⟨rfl, rfl⟩
      cases gg
      all_goals go_wp2
      all_goals
        go_region_held3 (fun w' => w'.cell? ⟨g, j * 3 + 2, none⟩ = some (.string t) ∧ Below w.heap.size w w')
          (first
            | exact ⟨by exact C2.out, HB.out.drew⟩
            | (go_split_ands
               exact ⟨cell_upC hb (by assumption), Below.trans (by assumption) (hb.mono (Below.size (by assumption)))⟩))
          (first
            | (go_at_call 64; rw [EC.out]; refine (markText_any (p + n' + 1) (by omega) (by omega) _).mono ?_; rintro e w6 ⟨rfl, hb⟩; rw [← HT.out]))
      all_goals go_split_ands
      all_goals go_wp2
      all_goals go_roundw
      all_goals first
        | (refine ⟨j + 1, p + n' + 2, by omega, by go_num, by go_num, ?_, by assumption⟩
           show p + n' + 2 = posTo ss k (j + 1)
           rw [posTo_succ HX.out, ← HP.out, HXL.out])
        | (simp [intOf]; omega)
    · go_wp2
      go_ret
      obtain rfl : j = n := by omega
      exact ⟨by rw [← HP.out]; rfl, HB.out⟩

end Go.Proofs.YtlmjgbonoihccaaDoor
