
/-
  Trees in memory: Kf (a file: its name, where its list lies, and what the list says), Files (a slice that reads as such a list).
-/
import Derived.Test.YtldnpfkgehgfpaaDoorTreeP
import Derived.Test.YtldnpfkgehgfpaaDoorSibK
namespace Go.Proofs.YtldnpfkgehgfpaaDoor
open Go.RowKit Go.PlainAid

/-- One file in memory. -/
structure Kf where
  name : ByteArray
  A : Option Addr
  n : Nat
  c : Nat
  ks : List Kv
def Kf.enc (f : Kf) : List Value := [.string f.name, .slice f.A f.n f.c]
def flatF (fs : List Kf) : List Value := fs.flatMap Kf.enc
def Kf.fl (f : Kf) : Fl := ⟨f.name, sbs f.ks⟩
def fls (fs : List Kf) : List Fl := fs.map Kf.fl
def Kf.Ok (w : World) (lo hi : Nat) (f : Kf) : Prop := Sibs w lo hi f.A f.n f.ks ∧ f.n ≤ 1000 ∧ f.name.size ≤ 1000

theorem flatF_len (fs : List Kf) : (flatF fs).length = fs.length * 2 := by
  induction fs with
  | nil => rfl
  | cons k r ih => simp only [flatF, List.flatMap_cons, List.length_append, List.length_cons] at ih ⊢; rw [ih]; simp only [Kf.enc, List.length_cons, List.length_nil]; omega
theorem flatF_append (a b : List Kf) : flatF (a ++ b) = flatF a ++ flatF b := by simp [flatF]
theorem flatF_one (f : Kf) : flatF [f] = [.string f.name, .slice f.A f.n f.c] := by simp [flatF, Kf.enc]
theorem flatF_at : ∀ {fs : List Kf} {j : Nat} {f : Kf}, fs[j]? = some f → (flatF fs)[j * 2]? = some (.string f.name) ∧ (flatF fs)[j * 2 + 1]? = some (.slice f.A f.n f.c)
  | [], j, f, h => by simp at h
  | a :: r, 0, f, h => by
    simp at h; subst h
    exact ⟨rfl, rfl⟩
  | a :: r, j + 1, f, h => by
    have ih := flatF_at (fs := r) (j := j) (by simpa using h)
    have e : flatF (a :: r) = .string a.name :: .slice a.A a.n a.c :: flatF r := rfl
    rw [e, show (j + 1) * 2 = j * 2 + 2 by omega]
    exact ih
theorem flatF_drop : ∀ (fs : List Kf) (k : Nat), (flatF fs).drop (k * 2) = flatF (fs.drop k)
  | _, 0 => by simp
  | [], k + 1 => by simp [flatF]
  | a :: r, k + 1 => by
    have e : flatF (a :: r) = .string a.name :: .slice a.A a.n a.c :: flatF r := rfl
    rw [e, show (k + 1) * 2 = k * 2 + 2 by omega]
    exact flatF_drop r k
theorem flatF_take : ∀ (fs : List Kf) (k : Nat), (flatF fs).take (k * 2) = flatF (fs.take k)
  | _, 0 => by simp [flatF]
  | [], k + 1 => by simp [flatF]
  | a :: r, k + 1 => by
    have e : flatF (a :: r) = .string a.name :: .slice a.A a.n a.c :: flatF r := rfl
    have e2 : flatF ((a :: r).take (k + 1)) = .string a.name :: .slice a.A a.n a.c :: flatF (r.take k) := rfl
    rw [e, e2, show (k + 1) * 2 = k * 2 + 2 by omega, ← flatF_take r k]
    rfl
theorem fls_len (fs : List Kf) : (fls fs).length = fs.length := by simp [fls]
theorem fls_at {fs : List Kf} {j : Nat} {f : Kf} (h : fs[j]? = some f) : (fls fs)[j]? = some ⟨f.name, sbs f.ks⟩ := by simp [fls, h, Kf.fl]
theorem fls_append (a b : List Kf) : fls (a ++ b) = fls a ++ fls b := by simp [fls]

/-- The slice reads as the list; all lies in blocks lo .. hi-1. -/
def Files (w : World) (lo hi : Nat) (A : Option Addr) (n : Nat) (fs : List Kf) : Prop := Row w lo hi A n 2 (flatF fs) ∧ ∀ f ∈ fs, f.Ok w lo hi

section
variable {w w' : World} {lo hi lo' hi' n : Nat} {A : Option Addr} {fs : List Kf} {f : Kf}
theorem Kf.Ok.keep (h : f.Ok w lo hi) (q : Keep lo hi w w') : f.Ok w' lo hi := ⟨h.1.keep q, h.2⟩
theorem Kf.Ok.wide (h : f.Ok w lo hi) (h1 : lo' ≤ lo) (h2 : hi ≤ hi') : f.Ok w lo' hi' := ⟨h.1.wide h1 h2, h.2⟩
theorem Kf.Ok.below {B : Nat} (h : f.Ok w lo hi) (hb : Below B w w') (hB : hi ≤ B) : f.Ok w' lo hi := ⟨h.1.below hb hB, h.2⟩
theorem Files.len (h : Files w lo hi A n fs) : fs.length = n := by have := h.1.1; rw [flatF_len] at this; omega
theorem Files.wide (h : Files w lo hi A n fs) (h1 : lo' ≤ lo) (h2 : hi ≤ hi') : Files w lo' hi' A n fs := ⟨Row.wide h.1 h1 h2, fun k hk => (h.2 k hk).wide h1 h2⟩
theorem Files.below {B : Nat} (h : Files w lo hi A n fs) (hb : Below B w w') (hB : hi ≤ B) : Files w' lo hi A n fs := ⟨Row.below h.1 hb hB, fun k hk => (h.2 k hk).below hb hB⟩
end

/-- The slice reads as the list. -/
def HasF (w : World) (A : Option Addr) (n : Nat) (fs : List Kf) : Prop := Files w 0 w.heap.size A n fs
section
variable {w w' : World} {lo hi n : Nat} {A : Option Addr} {fs : List Kf}
theorem HasF.len (h : HasF w A n fs) : fs.length = n := Files.len h
theorem HasF.step (h : HasF w A n fs) (hb : Below w.heap.size w w') : HasF w' A n fs := (h.below hb (Nat.le_refl _)).wide (Nat.le_refl _) hb.size
theorem HasF.at_ (h : HasF w A n fs) {j : Nat} (hj : j < n) : ∃ b off t A' n' c' ks, A = some ⟨b, off, none⟩ ∧ b < w.heap.size ∧
    w.cell? ⟨b, off + j * 2, none⟩ = some (.string t) ∧ w.cell? ⟨b, off + j * 2 + 1, none⟩ = some (.slice A' n' c') ∧
    HasS w A' n' ks ∧ n' ≤ 1000 ∧ t.size ≤ 1000 ∧ Hid (fs[j]? = some ⟨t, A', n', c', ks⟩) := by
  have hl := h.len
  have hk : fs[j]? = some fs[j] := List.getElem?_eq_getElem (by omega)
  obtain ⟨b, off, e, _, h2, hc⟩ := h.1.2 (by omega)
  obtain ⟨f0, f1⟩ := flatF_at hk
  obtain ⟨o0, o1, o2⟩ := h.2 _ (List.getElem_mem (l := fs) (n := j) (by omega))
  exact ⟨b, off, fs[j].name, fs[j].A, fs[j].n, fs[j].c, fs[j].ks, e, h2, hc _ _ f0, hc _ _ f1, o0, o1, o2, hk⟩
theorem hasF_row {base c : Nat} (h : w.ownsRow base 29 2 (.slice A n c) n (flatF fs)) (hk : ∀ f ∈ fs, f.Ok w 0 w.heap.size) : HasF w A n fs := ⟨Row.own h (Nat.zero_le _) (Nat.le_refl _), hk⟩
theorem HasF.pre (h : HasF w A n fs) {k : Nat} (hk : k ≤ n) : HasF w A k (fs.take k) := by
  have hl := h.len
  refine ⟨⟨by rw [flatF_len, List.length_take]; omega, fun h0 => ?_⟩, fun f hf => h.2 f (List.mem_of_mem_take hf)⟩
  obtain ⟨b, off, e, h1, h2, hc⟩ := h.1.2 (by omega)
  refine ⟨b, off, e, h1, h2, fun j u hu => hc j u ?_⟩
  rw [← flatF_take, List.getElem?_take] at hu
  split at hu
  · exact hu
  · cases hu
end

theorem cell_two_new (w : World) (x y : Value) (t : TypeId) : ∀ j u, [x, y][j]? = some u → (w.alloc (.cells #[x, y] t)).cell? ((⟨w.heap.size, 0, none⟩ : Addr).add j) = some u := by
  intro j u hj
  have hh := heap_alloc_new w (.cells #[x, y] t)
  generalize w.alloc (.cells #[x, y] t) = W at hh ⊢
  match j, hj with
  | 0, hj => simp at hj; subst hj; simp [World.cell?, hh, Addr.add]
  | 1, hj => simp at hj; subst hj; simp [World.cell?, hh, Addr.add]
  | j + 2, hj => simp at hj

end Go.Proofs.YtldnpfkgehgfpaaDoor
