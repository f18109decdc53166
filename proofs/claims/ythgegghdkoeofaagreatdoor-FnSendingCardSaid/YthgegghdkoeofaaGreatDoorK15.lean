/-
  slices.Repeat of one int. (joined by pack.py: Rep)
-/
import Derived.Test.YthgegghdkoeofaaGreatDoorK3
import Derived.Test.YthgegghdkoeofaaGreatDoorK8
import Derived.Shelf.Bits.Mul64
import Derived.Laws.CopyOwn
import Derived.Deep.RegionLaw
namespace Go.Proofs.YthgegghdkoeofaaGreatDoor
set_option linter.unusedVariables false
set_option linter.unusedSimpArgs false
open Go.RowKit

set_option maxHeartbeats 1000000 in
theorem mul64_c (x y : Nat) (hx : x < 18446744073709551616) (hy : y < 18446744073709551616) (w : World) :
    Calls Tryz.prog 191 #[.int .u64 x, .int .u64 y] w fun e w' => e = .returned (.tuple #[.int .u64 ((x * y / 18446744073709551616 : Nat) : Int), .int .u64 ((x * y % 18446744073709551616 : Nat) : Int)]) ∧ w = w' := by
  obtain ⟨bd, bt, bw, hhi⟩ := Lib.mul64_hi x y hx hy
  have ba := Lib.half_mul_le (a := x / 4294967296) (b := y / 4294967296) (by omega) (by omega)
  have bb := Lib.half_mul_le (a := x / 4294967296) (b := y % 4294967296) (by omega) (by omega)
  have bc := Lib.half_mul_le (a := x % 4294967296) (b := y / 4294967296) (by omega) (by omega)
  have ba' : x / 4294967296 * (y / 4294967296) < 18446744073709551616 := by omega
  have bb' : x / 4294967296 * (y % 4294967296) < 18446744073709551616 := by omega
  have bc' : x % 4294967296 * (y / 4294967296) < 18446744073709551616 := by omega
  have bh1 : x / 4294967296 * (y / 4294967296) + (x / 4294967296 * (y % 4294967296) + x % 4294967296 * (y % 4294967296) / 4294967296) / 4294967296 < 18446744073709551616 := by omega
  have bh : x / 4294967296 * (y / 4294967296) + (x / 4294967296 * (y % 4294967296) + x % 4294967296 * (y % 4294967296) / 4294967296) / 4294967296 + ((x / 4294967296 * (y % 4294967296) + x % 4294967296 * (y % 4294967296) / 4294967296) % 4294967296 + x % 4294967296 * (y / 4294967296)) / 4294967296 < 18446744073709551616 := by omega
  go_enter Tryz.func191, Tryz.ntmps191
  go_wp2
  simp only [Mul64.maskN x hx, Mul64.maskN y hy, Mul64.divN, Mul64.mulN, Mul64.addN, Mul64.wrapN _ bd, Mul64.wrapN _ bb', Mul64.wrapN _ bt, Mul64.maskN _ bt, Mul64.wrapN _ bc', Mul64.wrapN _ bw, Mul64.wrapN _ ba', Mul64.wrapN _ bh1, Mul64.wrapN _ bh, Mul64.wrapM (x * y)]
  rw [hhi]
  go_ret2
  exact ⟨rfl, rfl⟩
set_option maxHeartbeats 1000000 in
theorem mul1_c (n : Nat) (hn : n ≤ 1000) (w : World) :
    Calls Tryz.prog 159 #[.int .u64 1, .int .u64 n] w fun e w' => e = .returned (.tuple #[.int .u64 0, .int .u64 n]) ∧ w = w' := by
  have e0 : ((1 * n / 18446744073709551616 : Nat) : Int) = 0 := by omega
  have e1 : ((1 * n % 18446744073709551616 : Nat) : Int) = (n : Int) := by omega
  have h := mul64_c 1 n (by omega) (by omega)
  rw [e0, e1] at h
  have H := Lib.hid h
  clear h e0 e1
  go_enter Tryz.func159, Tryz.ntmps159
  go_wp2_with (go_at_call 191; refine (H.out _).mono ?_; rintro e w' ⟨rfl, rfl⟩)
  go_ret2
  exact ⟨rfl, rfl⟩

def fil (x : Int) (n m : Nat) : List Value := List.replicate m (.int .i64 x) ++ List.replicate (n - m) (.int .i64 0)
theorem fil_len (x : Int) {n m : Nat} (h : m ≤ n) : (fil x n m).length = n := by simp [fil]; omega
theorem fil_get {x : Int} {n m j : Nat} (h : j < m) : (fil x n m)[j]? = some (.int .i64 x) := by
  unfold fil; rw [List.getElem?_append_left (by simpa using h)]; simp [h]
theorem fil_splice {x : Int} {n m k : Nat} (h : m + k ≤ n) : splice (fil x n m) m (List.replicate k (.int .i64 x)) = fil x n (m + k) := by
  unfold splice fil
  rw [List.take_left' (by simp), List.length_replicate, List.drop_append, List.drop_eq_nil_of_le (by simp), List.length_replicate, List.nil_append, List.drop_replicate, ← List.append_assoc, List.replicate_append_replicate,
    show n - m - (m + k - m) = n - (m + k) by omega]
theorem fil_full (x : Int) (n : Nat) : fil x n n = ints (List.replicate n x) := by simp [fil, ints]
theorem fil_zero (x : Int) (n : Nat) : fil x n 0 = List.replicate n (.int .i64 0) := by simp [fil]
theorem own_heap {w : World} {base : Nat} {e : TypeId} {g n : Nat} {xs : List Value} (h : w.ownsRow base e 1 (.slice (some ⟨g, 0, none⟩) n n) n xs) : w.heap[g]? = some (.cells xs.toArray e (0, 0)) := by
  rcases h.2 with ⟨h1, _⟩ | ⟨g', cap, cur, h1, _, h2, _, _, h3, h4⟩
  · cases h1
  · injection h1 with h1 _ h5
    injection h1 with h1
    injection h1 with h1
    subst h1; subst h5
    rw [h2, ← h4, List.take_of_length_le (by simp; omega)]
theorem heap_own {w : World} {base : Nat} {e : TypeId} {g n : Nat} {xs : List Value} (h : w.heap[g]? = some (.cells xs.toArray e (0, 0))) (hl : xs.length = n) (hb : base ≤ g) (hn : n ≤ maxLen) : w.ownsRow base e 1 (.slice (some ⟨g, 0, none⟩) n n) n xs :=
  ⟨by omega, .inr ⟨g, n, _, rfl, hb, h, Nat.le_refl _, hn, by simp; omega, by rw [List.take_of_length_le (by simp; omega)]⟩⟩

theorem made_fil (x : Int) (n : Nat) : (madeCells (Value.int IntKind.i64 0).cells (n * 1)).toList = fil x n 0 := by
  rw [made_eq (sz := 1) rfl (by omega), fil_zero]
  induction n with
  | zero => rfl
  | succ n ih => rw [List.replicate_succ, List.flatten_cons, ih, List.replicate_succ]; rfl
theorem copy_src {w w1 : World} {b off : Nat} {x : Value} (hb : Below w.heap.size w w1) (hl : b < w.heap.size) (h : w.cell? ⟨b, off, none⟩ = some x) : ∀ j v, ([x] : List Value)[j]? = some v → w1.cell? ((⟨b, off, none⟩ : Addr).add j) = some v := fun j v hj => by
  rcases j with _ | j
  · simp at hj; subst hj; rw [Addr.add_lit]; exact (hb.cell (p := ⟨b, off + 0, none⟩) hl).trans h
  · simp at hj
theorem rep_src {w : World} {b n m k : Nat} {x : Int} {t : TypeId} (h : w.heap[b]? = some (.cells (fil x n m).toArray t (0, 0))) (hk : k ≤ m) {j : Nat} {v : Value} (hj : (List.replicate k (Value.int .i64 x))[j]? = some v) : w.cell? ((⟨b, 0, none⟩ : Addr).add j) = some v := by
  have hjk : j < k := by have := (List.getElem?_eq_some_iff.1 hj).1; simpa using this
  have hv : v = .int .i64 x := by simp [hjk] at hj; exact hj.symm
  subst hv
  rw [Addr.add_lit]
  simp [World.cell?, h, fil_get (x := x) (n := n) (show j < m by omega)]
theorem rep_one (k : Nat) (x : Int) : ∀ v ∈ List.replicate k (Value.int .i64 x), v.oneCell' = true := by
  intro v hv
  rw [(List.mem_replicate.1 hv).2]; rfl

set_option maxRecDepth 100000 in
set_option maxHeartbeats 1000000 in
theorem repeat_c (v : Value) (x : Int) (n : Nat) (w : World) (hr : RdI w v [x]) (h1 : 1 ≤ n) (hn : n ≤ 1000) :
    Calls Tryz.prog 137 #[v, .int .i64 n] w (OwnI (List.replicate n x) w) := by
  obtain ⟨A, c, rfl, hc, hm, hr⟩ := hr
  obtain ⟨b, off, rfl, hbl, hcell⟩ := hr (by simp)
  rw [maxLen_eq] at hm
  obtain ⟨i0, hi, hz0, hz1, hz2⟩ := info_parts Tryz.infoInt
  have hcx : w.cell? ⟨b, off, none⟩ = some (.int .i64 x) := hcell 0 _ rfl
  have HCX := Lib.hid hcx
  have hsz : (Tryz.prog.info? 3).map (·.size) = some 1 := by kernel_rfl
  have HSZ := Lib.hid hsz
  clear hr hcell hcx hsz
  have hwr : IntKind.u64.wrap (n : Int) = (n : Int) := by rw [IntKind.wrap_u64]; omega
  have hwr2 : IntKind.i64.wrap (n : Int) = (n : Int) := by rw [IntKind.wrap_i64]; omega
  simp only [List.length_singleton] at hc ⊢
  go_enter Tryz.func137, Tryz.ntmps137
  go_wp2_with (first | (go_at_call 159; refine (mul1_c n hn _).mono ?_; rintro e w' ⟨rfl, rfl⟩) | (at_make; refine wpList_make_full _ rfl _ _ 48 rfl w.heap.size 3 i0 _ 1 Tryz.underlying48 hi hz0 hz1 _ _ _ _ n rfl rfl rfl rfl (by rw [hz2]; omega) (by rw [maxLen_eq]; omega) (Nat.le_refl _) ?_; intro w1 hown1 hg1; rw [made_fil x n] at hown1; have hb1 : Below w.heap.size w w1 := (Below.refl _ _).grown hg1 (Nat.le_refl _) (fun k h => by cases h); have HB1 := Lib.hid hb1; have HH := Lib.hid (own_heap hown1); clear hown1 hg1 hb1) | (refine wpList_copy_splice rfl (.tmp 31) (.tmp 32) 48 48 (by rfl) 3 Tryz.underlying48 HSZ.out (some ⟨w.heap.size, 0, none⟩) (some ⟨b, off, none⟩) n n 1 c (by rfl) (by rfl) w.heap.size 0 (fil x n 0) 3 HH.out [.int .i64 x] (by show 1 = min 1 n; omega) (fun _ => ⟨rfl, _, rfl, copy_src HB1.out hbl HCX.out⟩) (by rw [fil_len x (by omega)]; simp; omega) (rep_one 1 x) w.heap.size w HB1.out (Nat.le_refl _) ?_; intro w2 hg2 hb2; have HB2 := Lib.hid hb2; have HG2 : Hid (w2.heap[w.heap.size]? = some (.cells (fil x n 1).toArray 3 (0, 0))) := Lib.hid (by have e := fil_splice (x := x) (n := n) (m := 0) (k := 1) (by omega); rw [← e]; exact hg2.out); clear hg2 hb2))
  go_loopw [8] (fun v8 wr => ∃ m : Nat, 1 ≤ m ∧ m ≤ n ∧ v8 = .int .i64 m ∧ Hid (wr.heap[w.heap.size]? = some (.cells (fil x n m).toArray 3 (0, 0))) ∧ Hid (Below w.heap.size w wr)) (fun v8 _ => n - (intOf v8).toNat)
  case atStart => exact ⟨1, Nat.le_refl _, h1, rfl, HG2, HB2⟩
  case round =>
    obtain ⟨m, hm1, hmn, rfl, HG, HB⟩ := hrel
    by_cases hlt : m < n
    · obtain ⟨k, hk, hk1, hk2⟩ : ∃ k, k = min m (n - m) ∧ 1 ≤ k ∧ m + k ≤ n := ⟨_, rfl, by omega, by omega⟩
      have HK : Hid ((List.replicate k (Value.int .i64 x)).length = Nat.min m (n - m)) := Lib.hid (by rw [List.length_replicate]; exact hk)
      have HK2 : Hid (m + (List.replicate k (Value.int .i64 x)).length ≤ (fil x n m).length) := Lib.hid (by rw [fil_len x (by omega), List.length_replicate]; omega)
      have HK3 : Hid (∀ j v, (List.replicate k (Value.int .i64 x))[j]? = some v → wr.drew.cell? ((⟨w.heap.size, 0, none⟩ : Addr).add j) = some v) := Lib.hid (fun j v hj => rep_src (w := wr.drew) HG.out (by omega) hj)
      clear hk
      have hnm : ¬ (n = m) := by omega
      have hnm2 : ¬ (m = n) := by omega
      have g0 : (0 : Int) ≤ (m : Int) := by omega
      have s1 : IntKind.i64.wrap ((m : Int) + (k : Int)) = (m : Int) + (k : Int) := IntWalk.i64_in _ (by omega)
      have g1 : (m : Int) ≤ (n : Int) := by omega
      go_wp2_with fail
      go_region_held3 (fun w' => Below w.heap.size w w') (first | exact hb4 | exact bel_dr HB.out) ((refine step_copy_splice rfl (.tmp 41) (.tmp 44) 48 48 (by rfl) 3 Tryz.underlying48 HSZ.out (some ⟨w.heap.size, m, none⟩) (some ⟨w.heap.size, 0, none⟩) (n - m) (n - m) m n (by rfl) (by rfl) w.heap.size m (fil x n m) 3 HG.out (List.replicate k (.int .i64 x)) HK.out (fun _ => ⟨rfl, _, rfl, HK3.out⟩) HK2.out (rep_one k x) w.heap.size w (bel_dr HB.out) (Nat.le_refl _) ?_; intro w4 hg4 hb4))
      have HB4 := Lib.hid hb4
      have HG4 : Hid (w4.heap[w.heap.size]? = some (.cells (fil x n (m + k)).toArray 3 (0, 0))) := Lib.hid (by have e := fil_splice (x := x) (n := n) (m := m) (k := k) hk2; rw [← e]; exact hg4.out)
      clear hg4 hb4 s1
      go_wp2
      refine ⟨⟨m + k, by omega, by omega, by go_num, HG4, HB4⟩, by simp [intOf]; omega⟩
    · obtain rfl : m = n := by omega
      go_wp2
      go_ret
      refine ⟨_, rfl, ?_, HB.out⟩
      rw [List.length_replicate, ← fil_full]
      exact heap_own HG.out (fil_len x (Nat.le_refl _)) (Nat.le_refl _) (by rw [maxLen_eq]; omega)
end Go.Proofs.YthgegghdkoeofaaGreatDoor
