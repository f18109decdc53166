/-
  A region that draws its order, by what holds of it whatever has come up: each operation is looked at once. (joined by pack.py: Reg)
-/
import Derived.Test.YthgegghdkoeofaaGreatDoorK2
import Derived.Orders
import Derived.Calls
import Derived.Laws.World
namespace Go.Proofs.YthgegghdkoeofaaGreatDoor
set_option linter.unusedVariables false
set_option linter.unusedSimpArgs false
open Go

section
variable {P : Program} {ops : Array Oper} {Q : Exit → Act → World → Prop}

def dstAt (ops : Array Oper) (i : Nat) : Option Tmp := (ops[i]?).bind (·.dst)
/-- The frame behind those that have come up; V: what they yielded. -/
def putsTo (ops : Array Oper) (V : Nat → Option Value) : Nat → Act → Act
  | 0, a => a
  | n + 1, a => match V n with
    | some v => (putsTo ops V n a).put (dstAt ops n) v
    | none => putsTo ops V n a
def updV (V : Nat → Option Value) (i : Nat) (v : Value) : Nat → Option Value := fun j => if j = i then some v else V j
theorem updV_same (V : Nat → Option Value) (i : Nat) (v : Value) : updV V i v i = some v := if_pos rfl
theorem updV_ne {V : Nat → Option Value} {i j : Nat} {v : Value} (h : j ≠ i) : updV V i v j = V j := if_neg h
/-- No two write one temporary. -/
def apartD (ops : Array Oper) : Bool := (List.range ops.size).all fun i => (List.range ops.size).all fun j => i == j || (dstAt ops i).isNone || !((dstAt ops i) == (dstAt ops j))
/-- Each waits for earlier ones alone, and has no guard. -/
def backD (ops : Array Oper) : Bool := (List.range ops.size).all fun i => match ops[i]? with
  | some o => o.after.all (fun e => !Region.binds .any e || decide (e.on < i)) && o.guard.isNone
  | none => true
theorem apartD_spec (h : apartD ops = true) {i j : Nat} (hi : i < ops.size) (hj : j < ops.size) (hne : i ≠ j) (d : Tmp) (e : dstAt ops i = some d) : dstAt ops j ≠ some d := by
  unfold apartD at h
  rw [List.all_eq_true] at h
  have h1 := h i (List.mem_range.2 hi)
  rw [List.all_eq_true] at h1
  have h2 := h1 j (List.mem_range.2 hj)
  rw [e] at h2
  intro e2
  rw [e2] at h2
  simp [hne] at h2
theorem puts_high {V : Nat → Option Value} {a : Act} {i : Nat} {v : Value} : ∀ n, n ≤ i → putsTo ops (updV V i v) n a = putsTo ops V n a := by
  intro n
  induction n with
  | zero => intro _; rfl
  | succ n ih => intro h; simp only [putsTo]; rw [updV_ne (by omega), ih (by omega)]
theorem puts_step {V : Nat → Option Value} {a : Act} {i : Nat} {v : Value} (hV : V i = none) : ∀ n, i < n → (∀ j, j < n → j ≠ i → ∀ d, dstAt ops j = some d → dstAt ops i ≠ some d) →
    (putsTo ops V n a).put (dstAt ops i) v = putsTo ops (updV V i v) n a := by
  intro n
  induction n with
  | zero => intro h; omega
  | succ n ih =>
    intro h hd
    by_cases hin : i = n
    · subst hin
      simp only [putsTo]
      rw [hV, updV_same, puts_high i (Nat.le_refl _)]
    · have h1 := ih (by omega) (fun j hj => hd j (by omega))
      simp only [putsTo]
      rw [updV_ne (by omega)]
      cases hn : V n with
      | none => exact h1
      | some u =>
        simp only
        rw [Act.put_comm _ _ _ (hd n (by omega) (by omega)), h1]
theorem put_size (a : Act) (x : Option Tmp) (v : Value) : (a.put x v).tmps.size = a.tmps.size := by cases x <;> simp [Act.put]
theorem puts_size {V : Nat → Option Value} {a : Act} : ∀ n, (putsTo ops V n a).tmps.size = a.tmps.size := by
  intro n
  induction n with
  | zero => rfl
  | succ n ih =>
    simp only [putsTo]
    cases V n with
    | none => exact ih
    | some v => simp only; rw [put_size]; exact ih
theorem puts_out {V : Nat → Option Value} {a : Act} {t : Tmp} : ∀ n, (∀ j, j < n → dstAt ops j ≠ some t) → (putsTo ops V n a).eval (.tmp t) = a.eval (.tmp t) := by
  intro n
  induction n with
  | zero => intro _; rfl
  | succ n ih =>
    intro h
    simp only [putsTo]
    cases V n with
    | none => exact ih (fun j hj => h j (by omega))
    | some v =>
      simp only
      rw [Act.eval_put (fun d hd e => h n (by omega) (by rw [hd]; injection e with e; rw [e])), ih (fun j hj => h j (by omega))]
theorem puts_const {V : Nat → Option Value} {a : Act} {v : Value} (n : Nat) : (putsTo ops V n a).eval (.const v) = v := rfl
theorem puts_in {V : Nat → Option Value} {a : Act} {i : Nat} {v : Value} {d : Tmp} (hV : V i = some v) (hd : dstAt ops i = some d) (hs : d < a.tmps.size) : ∀ n, i < n → (∀ j, j < n → j ≠ i → dstAt ops j ≠ some d) → (putsTo ops V n a).eval (.tmp d) = v := by
  intro n
  induction n with
  | zero => intro h; omega
  | succ n ih =>
    intro h hn
    simp only [putsTo]
    by_cases hin : i = n
    · subst hin
      rw [hV]
      simp only
      rw [hd]
      have : d < (putsTo ops V i a).tmps.size := by rw [puts_size]; exact hs
      simp [Act.eval, Act.put, this]
    · have h1 := ih (by omega) (fun j hj => hn j (by omega))
      cases hVn : V n with
      | none => exact h1
      | some u =>
        simp only
        rw [Act.eval_put (fun e he hx => hn n (by omega) (by omega) (by rw [he]; injection hx with hx; rw [hx])), h1]
/-- What must have come up before op i. -/
def preD (ops : Array Oper) (V : Nat → Option Value) (i : Nat) : Prop := ∀ o, ops[i]? = some o → ∀ e ∈ o.after, Region.binds .any e = true → (V e.on).isSome = true
theorem wpAny_inv (hap : apartD ops = true) (hbk : backD ops = true) (I : (Nat → Option Value) → World → Prop) (a0 : Act)
    (hstep : ∀ (V : Nat → Option Value) (w : World), I V w → (∀ j, (V j).isSome = true → preD ops V j) → ∀ (i : Nat) (o : Oper), ops[i]? = some o → V i = none → (∀ e ∈ o.after, Region.binds .any e = true → (V e.on).isSome = true) →
      ∀ K : Act → World → Prop, (∀ v w', I (updV V i v) w' → K ((putsTo ops V ops.size a0).put o.dst v) w') → o.wp P (putsTo ops V ops.size a0) w K Q)
    (hfin : ∀ (V : Nat → Option Value) (w : World), I V w → (∀ i, i < ops.size → (V i).isSome = true) → Q .normal (putsTo ops V ops.size a0) w) :
    ∀ (fuel : Nat) (listed : Array Bool) (V : Nat → Option Value) (w : World), listed.size = ops.size → (∀ j, j < ops.size → listed.getD j false = (V j).isSome) → (∀ j, ops.size ≤ j → V j = none) → (∀ j, (V j).isSome = true → preD ops V j) →
      cn (fun j => (V j).isNone) ops.size ≤ fuel → I V w → wpAny P .any ops Q fuel listed (putsTo ops V ops.size a0) w := by
  intro fuel
  have un : ∀ (listed : Array Bool) (V : Nat → Option Value), listed.size = ops.size → (∀ j, j < ops.size → listed.getD j false = (V j).isSome) → ∀ j, j < ops.size → (listed.getD j true = (V j).isSome) := by
    intro listed V hs hl j hj
    rw [← hl j hj]
    have : j < listed.size := by omega
    simp [this]
  have guard : ∀ (i : Nat) (o : Oper), ops[i]? = some o → o.guard = none ∧ ∀ e ∈ o.after, Region.binds .any e = true → e.on < i := by
    intro i o ho
    unfold backD at hbk
    rw [List.all_eq_true] at hbk
    have h1 := hbk i (List.mem_range.2 (Array.getElem?_eq_some_iff.1 ho).1)
    rw [ho] at h1
    simp only [Bool.and_eq_true, Option.isNone_iff_eq_none] at h1
    exact ⟨h1.2, fun e he hb => by have h3 := Array.all_eq_true_iff_forall_mem.1 h1.1 e he; rw [hb] at h3; simpa using h3⟩
  have ready : ∀ (listed : Array Bool) (V : Nat → Option Value), listed.size = ops.size → (∀ j, j < ops.size → listed.getD j false = (V j).isSome) →
      Region.ready .any ops listed = [] → ∀ i, i < ops.size → (V i).isSome = true := by
    intro listed V hs hl hr i
    induction i using Nat.strongRecOn with
    | _ i ih =>
      intro hi
      cases hv : (V i).isSome with
      | true => rfl
      | false =>
        exfalso
        have ho := Array.getElem?_eq_getElem hi
        have hm : i ∈ Region.ready .any ops listed := mem_ready.2 ⟨by rw [un listed V hs hl i hi, hv], ops[i], ho, fun e he hb => by
          have h1 := (guard i _ ho).2 e he hb
          rw [hl e.on (by omega)]
          exact ih e.on h1 (by omega)⟩
        rw [hr] at hm
        cases hm
  induction fuel with
  | zero =>
    intro listed V w hs hl hhi hcl hc hI
    have all : ∀ i, i < ops.size → (V i).isSome = true := by
      intro i hi
      cases hv : V i with
      | some v => rfl
      | none =>
        have := cn_off (p := fun j => (V j).isNone) (m := i) (n := ops.size) (by simp [hv]) hi
        omega
    refine ⟨?_, hfin V w hI all⟩
    refine List.eq_nil_iff_forall_not_mem.2 (fun i hi => ?_)
    obtain ⟨h0, o, ho, _⟩ := mem_ready.1 hi
    have hlt := (Array.getElem?_eq_some_iff.1 ho).1
    rw [un listed V hs hl i hlt, all i hlt] at h0
    cases h0
  | succ fuel ih =>
    intro listed V w hs hl hhi hcl hc hI
    refine ⟨fun hr => hfin V w hI (ready listed V hs hl hr), fun i hi => ?_⟩
    obtain ⟨h0, o, ho, hall⟩ := mem_ready.1 hi
    have hlt := (Array.getElem?_eq_some_iff.1 ho).1
    rw [un listed V hs hl i hlt] at h0
    have hVi : V i = none := by simpa using h0
    have hpre : ∀ e ∈ o.after, Region.binds .any e = true → (V e.on).isSome = true := fun e he hb => by
      have h1 := hall e he hb
      have h2 := (guard i o ho).2 e he hb
      rw [← hl e.on (by omega)]; exact h1
    unfold wpOp
    simp only [ho]
    rw [if_pos (by simp [Region.wanted, (guard i o ho).1])]
    refine .inl (hstep V w hI hcl i o ho hVi hpre _ (fun v w' hI' => ?_))
    have hdst : dstAt ops i = o.dst := by simp [dstAt, ho]
    rw [← hdst, puts_step hVi ops.size hlt (fun j hj hne d hd => apartD_spec hap hj hlt hne d hd)]
    refine ih _ _ w' (by simp [hs]) (fun j hj => ?_) (fun j hj => ?_) (fun j hj => ?_) ?_ hI'
    · by_cases e : j = i
      · subst e
        rw [updV_same]
        have : j < listed.size := by omega
        simp [this]
      · rw [updV_ne e, getD_set_ne false (Ne.symm e)]; exact hl j hj
    · rw [updV_ne (by omega)]; exact hhi j hj
    · intro o' ho' e he hb
      have hm : ∀ x, (V x).isSome = true → (updV V i v x).isSome = true := fun x hx => by
        by_cases e : x = i
        · subst e; rw [updV_same]; rfl
        · rw [updV_ne e]; exact hx
      by_cases ej : j = i
      · subst ej
        rw [ho] at ho'
        injection ho' with ho'
        subst ho'
        exact hm _ (hpre e he hb)
      · rw [updV_ne ej] at hj
        exact hm _ (hcl j hj o' ho' e he hb)
    · have h1 := cn_off (p := fun j => (V j).isNone) (m := i) (n := ops.size) (by simp [hVi]) hlt
      have h2 : cn (fun j => (updV V i v j).isNone) ops.size = cn (offB (fun j => (V j).isNone) i) ops.size := cn_congr _ (fun j _ => by
        unfold offB
        by_cases e : j = i
        · subst e; simp [updV_same]
        · simp [updV_ne e, e])
      omega
/-- Op i waits for op j. -/
def waitsD (ops : Array Oper) (i j : Nat) : Bool := match ops[i]? with
  | some o => o.after.any fun e => Region.binds .any e && e.on == j
  | none => false
theorem wait_some {V : Nat → Option Value} {i j : Nat} (h : waitsD ops i j = true) (hp : preD ops V i) : (V j).isSome = true := by
  unfold waitsD at h
  cases ho : ops[i]? with
  | none => rw [ho] at h; cases h
  | some o =>
    rw [ho] at h
    obtain ⟨e, he, hb⟩ := Array.any_eq_true'.1 h
    rw [Bool.and_eq_true, beq_iff_eq] at hb
    rw [← hb.2]
    exact hp o ho e he hb.1
theorem pre_of {V : Nat → Option Value} {i : Nat} {o : Oper} (ho : ops[i]? = some o) (h : ∀ e ∈ o.after, Region.binds .any e = true → (V e.on).isSome = true) : preD ops V i := fun o' ho' => by
  rw [ho] at ho'
  injection ho' with e
  subst e
  exact h
theorem eval_in (hap : apartD ops = true) {V : Nat → Option Value} {a : Act} {i : Nat} {v : Value} {d : Tmp} (hd : dstAt ops i = some d) (hi : i < ops.size) (hs : d < a.tmps.size) (hV : V i = some v) : (putsTo ops V ops.size a).eval (.tmp d) = v :=
  puts_in hV hd hs _ hi (fun j hj hne e => apartD_spec hap hj hi hne d e hd)
def writesD (ops : Array Oper) (t : Tmp) : Bool := (List.range ops.size).any fun j => dstAt ops j == some t
theorem eval_out {V : Nat → Option Value} {a : Act} {t : Tmp} (h : writesD ops t = false) : (putsTo ops V ops.size a).eval (.tmp t) = a.eval (.tmp t) :=
  puts_out _ (fun j hj e => by
    unfold writesD at h
    rw [List.any_eq_false] at h
    exact h j (List.mem_range.2 hj) (by rw [e]; simp))
/-- **A region that draws its order, each operation looked at once.** -/
theorem wp_region_inv {id : Nat} {a0 : Act} {w0 : World} (hm : P.follows .mixedOrders = true) (hap : apartD ops = true) (hbk : backD ops = true) (I : (Nat → Option Value) → World → Prop) (h0 : I (fun _ => none) w0.drew)
    (hstep : ∀ (V : Nat → Option Value) (w : World), I V w → (∀ j, (V j).isSome = true → preD ops V j) → ∀ (i : Nat) (o : Oper), ops[i]? = some o → V i = none → (∀ e ∈ o.after, Region.binds .any e = true → (V e.on).isSome = true) →
      ∀ K : Act → World → Prop, (∀ v w', I (updV V i v) w' → K ((putsTo ops V ops.size a0).put o.dst v) w') → o.wp P (putsTo ops V ops.size a0) w K Q)
    (hfin : ∀ (V : Nat → Option Value) (w : World), I V w → (∀ i, i < ops.size → (V i).isSome = true) → Q .normal (putsTo ops V ops.size a0) w) :
    (Code.region id ops true).wp P Q a0 w0 := by
  refine wp_region_any hm ?_
  have e : putsTo ops (fun _ => none) ops.size a0 = a0 := by
    have : ∀ n, putsTo ops (fun _ => none) n a0 = a0 := by
      intro n
      induction n with
      | zero => rfl
      | succ n ih => simp only [putsTo]; exact ih
    exact this _
  have h := wpAny_inv (P := P) hap hbk I a0 hstep hfin ops.size (Array.replicate ops.size false) (fun _ => none) w0.drew (by simp) (fun j hj => by simp [hj]) (fun _ _ => rfl) (fun j hj => by cases hj) (by
    have : ∀ (p : Nat → Bool) n, cn p n ≤ n := by
      intro p n
      induction n with
      | zero => exact Nat.le_refl _
      | succ n ih => simp only [cn]; split <;> omega
    exact this _ _) h0
  rw [e] at h
  exact h
/-- **The same, the frame a letter: what it holds is told by 'hin' and 'hout'.** -/
theorem wp_region_inv2 {id : Nat} {a0 : Act} {w0 : World} (hm : P.follows .mixedOrders = true) (hap : apartD ops = true) (hbk : backD ops = true) (I : (Nat → Option Value) → World → Prop) (h0 : I (fun _ => none) w0.drew)
    (hstep : ∀ (V : Nat → Option Value) (w : World), I V w → (∀ j, (V j).isSome = true → preD ops V j) → ∀ (i : Nat) (o : Oper), ops[i]? = some o → i < ops.size → V i = none → preD ops V i →
      ∀ a : Act, (∀ (j : Nat) (d : Tmp) (v : Value), dstAt ops j = some d → j < ops.size → d < a0.tmps.size → V j = some v → a.eval (.tmp d) = v) → (∀ t : Tmp, writesD ops t = false → a.eval (.tmp t) = a0.eval (.tmp t)) →
      ∀ K : Act → World → Prop, (∀ v w', I (updV V i v) w' → K (a.put o.dst v) w') → o.wp P a w K Q)
    (hfin : ∀ (V : Nat → Option Value) (w : World), I V w → (∀ i, i < ops.size → (V i).isSome = true) → Q .normal (putsTo ops V ops.size a0) w) :
    (Code.region id ops true).wp P Q a0 w0 :=
  wp_region_inv hm hap hbk I h0 (fun V w hI hcl i o ho hVi hpre K hK => hstep V w hI hcl i o ho (Array.getElem?_eq_some_iff.1 ho).1 hVi (pre_of ho hpre) _ (fun _ _ _ hd hi hs hV => eval_in hap hd hi hs hV) (fun _ h => eval_out h) K hK) hfin
end
end Go.Proofs.YthgegghdkoeofaaGreatDoor
