/-
  Nodes that are apart, in plain words; and rows of bools.
-/
import Derived.Test.YtemcdgchleijbaaFew
import Derived.Test.YtemcdgchleijbaaDel
import Derived.Test.YtemcdgchleijbaaTimesI
namespace Go.Proofs.Ytemcdgchleijbaa
open Go.RowKit

def apartP (m : Nat) (ar : List Arc) (a : Int) (out : List Int) (k : Nat) : Bool := out.all fun t => (List.range m).all fun r => !(reachP m ar a r k && reachP m ar a r t.toNat)
def apartL (m : Nat) (ar : List Arc) (a : Int) : Nat → List Int
  | 0 => []
  | k + 1 => if apartP m ar a (apartL m ar a k) k = true then apartL m ar a k ++ [(k : Int)] else apartL m ar a k
theorem apartL_mem {m : Nat} {ar : List Arc} {a : Int} : ∀ {k : Nat} {x : Int}, x ∈ apartL m ar a k → ∃ i : Nat, x = (i : Int) ∧ i < k := by
  intro k
  induction k with
  | zero => intro x h; simp [apartL] at h
  | succ k ih =>
    intro x h
    unfold apartL at h
    split at h
    · rcases List.mem_append.1 h with h | h
      · obtain ⟨i, h1, h2⟩ := ih h; exact ⟨i, h1, by omega⟩
      · simp at h; exact ⟨k, h, by omega⟩
    · obtain ⟨i, h1, h2⟩ := ih h; exact ⟨i, h1, by omega⟩
theorem apartL_len (m : Nat) (ar : List Arc) (a : Int) : ∀ k, (apartL m ar a k).length ≤ k := by
  intro k
  induction k with
  | zero => simp [apartL]
  | succ k ih =>
    unfold apartL
    split
    · rw [List.length_append]; simp; omega
    · omega
theorem reachP_sym {m : Nat} {l : List St} (hA : ∀ x ∈ arcs l, x.1 < m ∧ x.2.1 < m ∧ 0 < x.2.2) (a : Int) {u v : Nat} (hu : u < m) (hv : v < m) : reachP m (arcs l) a u v = reachP m (arcs l) a v u := by
  unfold reachP; rw [dist_sym hA hu hv]
/-- Which nodes are taken: those that some node of the list reaches. -/
def Taken (m : Nat) (ar : List Arc) (a : Int) (out : List Int) (tk : List Bool) : Prop := tk.length = m ∧ ∀ r, r < m → tk.getD r false = out.any fun t => reachP m ar a t.toNat r
def nearL (m : Nat) (ar : List Arc) (a : Int) (k : Nat) : List Int := selI (reachP m ar a k) m
def tkP (tk : List Bool) (x : Int) : Bool := tk.getD x.toNat false
theorem apart_iff {m : Nat} {l : List St} (hA : ∀ x ∈ arcs l, x.1 < m ∧ x.2.1 < m ∧ 0 < x.2.2) {a : Int} {out : List Int} {tk : List Bool} {k : Nat} (hk : k < m) (ho : ∀ x ∈ out, ∃ i : Nat, x = (i : Int) ∧ i < m) (ht : Taken m (arcs l) a out tk) :
    (nearL m (arcs l) a k).any (tkP tk) = !apartP m (arcs l) a out k := by
  have e : ((nearL m (arcs l) a k).any (tkP tk) = true) ↔ ¬ (apartP m (arcs l) a out k = true) := by
    constructor
    · intro h hap
      obtain ⟨x, hx, hp⟩ := List.any_eq_true.1 h
      obtain ⟨r, rfl, hr, hk'⟩ := selI_mem.1 hx
      unfold tkP at hp
      rw [Int.toNat_natCast, ht.2 r hr] at hp
      obtain ⟨t, ht1, ht2⟩ := List.any_eq_true.1 hp
      obtain ⟨i, rfl, hi⟩ := ho t ht1
      have h1 := List.all_eq_true.1 (List.all_eq_true.1 hap _ ht1) r (List.mem_range.2 hr)
      rw [Int.toNat_natCast] at ht2 h1
      rw [reachP_sym hA a hr hk, hk', reachP_sym hA a hr hi, ht2] at h1
      simp at h1
    · intro h
      unfold apartP at h
      rw [List.all_eq_true] at h
      have : ∃ t ∈ out, ¬ ((List.range m).all (fun r => !(reachP m (arcs l) a r k && reachP m (arcs l) a r t.toNat)) = true) := by
        refine Classical.byContradiction (fun hn => h (fun t ht1 => Classical.byContradiction (fun hn2 => hn ⟨t, ht1, hn2⟩)))
      obtain ⟨t, ht1, ht2⟩ := this
      rw [List.all_eq_true] at ht2
      have : ∃ r, r < m ∧ (reachP m (arcs l) a r k && reachP m (arcs l) a r t.toNat) = true := by
        refine Classical.byContradiction (fun hn => ht2 (fun r hr => ?_))
        have hr' := List.mem_range.1 hr
        cases hb : (reachP m (arcs l) a r k && reachP m (arcs l) a r t.toNat) with
        | false => rfl
        | true => exact absurd ⟨r, hr', hb⟩ hn
      obtain ⟨r, hr, hb⟩ := this
      obtain ⟨i, rfl, hi⟩ := ho t ht1
      rw [Int.toNat_natCast, Bool.and_eq_true] at hb
      refine List.any_eq_true.2 ⟨(r : Int), selI_mem.2 ⟨r, rfl, hr, ?_⟩, ?_⟩
      · rw [← reachP_sym hA a hr hk]; exact hb.1
      · unfold tkP
        rw [Int.toNat_natCast, ht.2 r hr]
        refine List.any_eq_true.2 ⟨(i : Int), ht1, ?_⟩
        rw [Int.toNat_natCast, ← reachP_sym hA a hr hi]; exact hb.2
  rw [Bool.eq_iff_iff, e]; simp
theorem taken_start (m : Nat) (ar : List Arc) (a : Int) : Taken m ar a [] (List.replicate m false) := by
  refine ⟨by simp, fun r hr => ?_⟩
  simp [List.getD, hr]
/-- The marks while the near nodes are being taken. -/
def TakeInv (m : Nat) (tk d : List Bool) (near : List Int) (i : Nat) : Prop := d.length = m ∧ ∀ r, r < m → d.getD r false = (tk.getD r false || decide ((r : Int) ∈ near.take i))
theorem getD_setB (d : List Bool) (i j : Nat) (x : Bool) : (d.set i x).getD j false = if i = j ∧ j < d.length then x else d.getD j false := by
  simp only [List.getD, List.getElem?_set]
  by_cases h : i = j
  · subst h
    by_cases h2 : i < d.length
    · simp [h2]
    · simp [h2]
  · simp [h]
theorem take_step {m : Nat} {tk d : List Bool} {near : List Int} {i x : Nat} (h : TakeInv m tk d near i) (hx : near[i]? = some (x : Int)) (hxm : x < m) : TakeInv m tk (d.set x true) near (i + 1) := by
  refine ⟨by simp [h.1], fun r hr => ?_⟩
  rw [getD_setB, take_succ_of hx]
  by_cases e : x = r
  · subst e
    rw [if_pos ⟨rfl, by rw [h.1]; exact hxm⟩]; simp
  · rw [if_neg (fun h => e h.1), h.2 r hr]
    have : ((r : Int) ∈ near.take i ++ [(x : Int)]) ↔ (r : Int) ∈ near.take i := by
      rw [List.mem_append]
      refine ⟨fun h1 => ?_, Or.inl⟩
      rcases h1 with h1 | h1
      · exact h1
      · simp at h1; omega
    rw [decide_eq_decide.2 this]
theorem take_end {m : Nat} {ar : List Arc} {a : Int} {out : List Int} {tk d : List Bool} {k : Nat} (ht : Taken m ar a out tk) (h : TakeInv m tk d (nearL m ar a k) (nearL m ar a k).length) : Taken m ar a (out ++ [(k : Int)]) d := by
  refine ⟨h.1, fun r hr => ?_⟩
  rw [h.2 r hr, ht.2 r hr, List.take_length, List.any_append]
  congr 1
  simp only [List.any_cons, List.any_nil, Bool.or_false, Int.toNat_natCast]
  cases hp : reachP m ar a k r with
  | true => exact decide_eq_true (selI_mem.2 ⟨r, rfl, hr, hp⟩)
  | false =>
    refine decide_eq_false (fun hm => ?_)
    obtain ⟨i, h1, h2, h3⟩ := selI_mem.1 hm
    obtain rfl : r = i := by omega
    rw [hp] at h3; cases h3

/-! ### Rows of bools -/
def boolsV (l : List Bool) : List Value := l.map Value.bool
theorem boolsV_len (l : List Bool) : (boolsV l).length = l.length := by simp [boolsV]
theorem ownB_cell {w : World} {base : Nat} {e : TypeId} {g n cap : Nat} {d : List Bool} (h : w.ownsRow base e 1 (.slice (some ⟨g, 0, none⟩) n cap) n (boolsV d)) {j : Nat} (hj : j < n) : w.cell? ⟨g, j, none⟩ = some (.bool (d.getD j false)) := by
  have hl := h.1
  rw [boolsV_len] at hl
  have hx : d[j]? = some (d.getD j false) := by simp [List.getD, List.getElem?_eq_getElem (show j < d.length by omega)]
  exact (h.cellAt j (by omega)).trans (by simp only [boolsV, List.getElem?_map, hx]; rfl)
theorem ownB_set {w : World} {base : Nat} {e : TypeId} {g n cap : Nat} {d : List Bool} (h : w.ownsRow base e 1 (.slice (some ⟨g, 0, none⟩) n cap) n (boolsV d)) (j : Nat) (x : Bool) : (w.setCell ⟨g, j, none⟩ (.bool x)).ownsRow base e 1 (.slice (some ⟨g, 0, none⟩) n cap) n (boolsV (d.set j x)) := by
  have := (h.stored j (.bool x)).1
  unfold boolsV at this ⊢
  rwa [← List.map_set] at this
theorem Try.infoBool : (Try.prog.info? 4).map (fun i => (i.zero, i.size, i.bytes)) = some (some (.bool false), 1, 1) := by kernel_rfl
theorem made_bools (n : Nat) : (madeCells (Value.bool false).cells (n * 1)).toList = boolsV (List.replicate n false) := by
  rw [made_eq (sz := 1) rfl (by omega)]
  induction n with
  | zero => rfl
  | succ n ih => rw [List.replicate_succ, List.flatten_cons, ih, List.replicate_succ]; rfl
theorem apartF_c (x : Nat) (g n cap Bt base : Nat) (tk : List Bool) (W : World) (c0 : W.cell? ⟨Bt, 0, none⟩ = some (.slice (some ⟨g, 0, none⟩) n cap)) (ho : W.ownsRow base 4 1 (.slice (some ⟨g, 0, none⟩) n cap) n (boolsV tk)) (hx : x < n) (hn : n ≤ 14) :
    Calls Try.prog 64 #[.int .i64 x, .pointer (some ⟨Bt, 0, none⟩)] W fun e w' => e = .returned (.bool (tk.getD x false)) ∧ W = w' := by
  have c1 := ownB_cell ho hx
  obtain ⟨b, hb⟩ : ∃ b, tk.getD x false = b := ⟨_, rfl⟩
  rw [hb] at c1 ⊢
  have i0 : (0 : Int) ≤ (x : Int) := by omega
  have i1 : (x : Int) < (n : Int) := by omega
  clear ho hb
  go_enter Try.func64, Try.ntmps64
  go_wp2
  go_ret
  exact ⟨rfl, rfl⟩

def apartNodesW (m : Nat) (l : List St) (a : Int) : List Int × Bool := (apartL m (arcs l) a m, true)
def apartNodesV (n : Int) (l : List St) (a : Int) : List Int × Bool := if (goodTown n l && inB a 0 36000) = true then apartNodesW n.toNat l a else ([], false)
theorem apartNodesV_len (n : Int) (l : List St) (a : Int) : (apartNodesV n l a).1.length ≤ 1000000 := by
  unfold apartNodesV
  split
  · rename_i h
    rw [Bool.and_eq_true] at h
    have h1 := goodTown_true h.1
    have h2 := apartL_len n.toNat (arcs l) a n.toNat
    unfold apartNodesW
    dsimp only
    omega
  · simp
end Go.Proofs.Ytemcdgchleijbaa
