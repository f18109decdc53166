/-
  slices.Repeat of one int. (joined by pack.py: Rep)
-/
import Derived.Test.YtgcdgcidjjdhmaaGreatDoorK6
import Derived.Test.YtgcdgcidjjdhmaaGreatDoorK8
import Derived.Shelf.Bits.Mul64
import Derived.Laws.CopyOwn
import Derived.Deep.RegionLaw
namespace Go.Proofs.YtgcdgcidjjdhmaaGreatDoor
set_option linter.unusedVariables false
set_option linter.unusedSimpArgs false
open Go.RowKit

def fil (x : Int) (n m : Nat) : List Value := List.replicate m (.int .i64 x) ++ List.replicate (n - m) (.int .i64 0)
theorem fil_len (x : Int) {n m : Nat} (h : m ≤ n) : (fil x n m).length = n := by simp [fil]; omega
theorem fil_get {x : Int} {n m j : Nat} (h : j < m) : (fil x n m)[j]? = some (.int .i64 x) := by
  unfold fil; rw [List.getElem?_append_left (by simpa using h)]; simp [h]
theorem fil_splice {x : Int} {n m k : Nat} (h : m + k ≤ n) : splice (fil x n m) m (List.replicate k (.int .i64 x)) = fil x n (m + k) := by
  unfold splice fil
  rw [List.take_left' (by simp), List.length_replicate, List.drop_append, List.drop_eq_nil_of_le (by simp), List.length_replicate, List.nil_append, List.drop_replicate, ← List.append_assoc, List.replicate_append_replicate,
    show n - m - (m + k - m) = n - (m + k) by omega]
theorem fil_full (x : Int) (n : Nat) : fil x n n = ints (List.replicate n x) := by simp [fil, ints]
theorem fil_zero (x : Int) (n : Nat) : fil x n 0 = List.replicate n (.int .i64 0) := by simp [fil]
theorem own_heap {w : World} {base : Nat} {e : TypeId} {g n : Nat} {xs : List Value} (h : w.ownsRow base e 1 (.slice (some ⟨g, 0, none⟩) n n) n xs) : w.heap[g]? = some (.cells xs.toArray e (0, 0)) := by
  rcases h.2 with ⟨h1, _⟩ | ⟨g', cap, cur, h1, _, h2, _, _, h3, h4⟩
  · cases h1
  · injection h1 with h1 _ h5
    injection h1 with h1
    injection h1 with h1
    subst h1; subst h5
    rw [h2, ← h4, List.take_of_length_le (by simp; omega)]
theorem heap_own {w : World} {base : Nat} {e : TypeId} {g n : Nat} {xs : List Value} (h : w.heap[g]? = some (.cells xs.toArray e (0, 0))) (hl : xs.length = n) (hb : base ≤ g) (hn : n ≤ maxLen) : w.ownsRow base e 1 (.slice (some ⟨g, 0, none⟩) n n) n xs :=
  ⟨by omega, .inr ⟨g, n, _, rfl, hb, h, Nat.le_refl _, hn, by simp; omega, by rw [List.take_of_length_le (by simp; omega)]⟩⟩

theorem made_fil (x : Int) (n : Nat) : (madeCells (Value.int IntKind.i64 0).cells (n * 1)).toList = fil x n 0 := by
  rw [made_eq (sz := 1) rfl (by omega), fil_zero]
  induction n with
  | zero => rfl
  | succ n ih => rw [List.replicate_succ, List.flatten_cons, ih, List.replicate_succ]; rfl
theorem copy_src {w w1 : World} {b off : Nat} {x : Value} (hb : Below w.heap.size w w1) (hl : b < w.heap.size) (h : w.cell? ⟨b, off, none⟩ = some x) : ∀ j v, ([x] : List Value)[j]? = some v → w1.cell? ((⟨b, off, none⟩ : Addr).add j) = some v := fun j v hj => by
  rcases j with _ | j
  · simp at hj; subst hj; rw [Addr.add_lit]; exact (hb.cell (p := ⟨b, off + 0, none⟩) hl).trans h
  · simp at hj
theorem rep_src {w : World} {b n m k : Nat} {x : Int} {t : TypeId} (h : w.heap[b]? = some (.cells (fil x n m).toArray t (0, 0))) (hk : k ≤ m) {j : Nat} {v : Value} (hj : (List.replicate k (Value.int .i64 x))[j]? = some v) : w.cell? ((⟨b, 0, none⟩ : Addr).add j) = some v := by
  have hjk : j < k := by have := (List.getElem?_eq_some_iff.1 hj).1; simpa using this
  have hv : v = .int .i64 x := by simp [hjk] at hj; exact hj.symm
  subst hv
  rw [Addr.add_lit]
  simp [World.cell?, h, fil_get (x := x) (n := n) (show j < m by omega)]
theorem rep_one (k : Nat) (x : Int) : ∀ v ∈ List.replicate k (Value.int .i64 x), v.oneCell' = true := by
  intro v hv
  rw [(List.mem_replicate.1 hv).2]; rfl

end Go.Proofs.YtgcdgcidjjdhmaaGreatDoor
