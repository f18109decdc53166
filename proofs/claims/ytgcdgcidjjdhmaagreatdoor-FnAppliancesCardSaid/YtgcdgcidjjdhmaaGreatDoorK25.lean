/-
  SendChoice: what is sent, for the walk of impl.sendChoice. impl.sendChoice. spec.dsSend: the fleet with those of a list called, and their names. (joined by pack.py: SendI SendW SendS)
-/
import Derived.Test.YtgcdgcidjjdhmaaGreatDoorK21
import Derived.Test.YtgcdgcidjjdhmaaGreatDoorK22
import Derived.Test.YtgcdgcidjjdhmaaGreatDoorK6
import Derived.Test.YtgcdgcidjjdhmaaGreatDoorK24
import Derived.Test.YtgcdgcidjjdhmaaGreatDoorK9
import Derived.WalkSpells
namespace Go.Proofs.YtgcdgcidjjdhmaaGreatDoor
set_option linter.unusedVariables false
set_option linter.unusedSimpArgs false
open Go.RowKit

def namesI (f : List Ap) (S : List Int) : List ByteArray := S.map (nmI f)
theorem namesI_snoc {f : List Ap} {S : List Int} {k : Nat} {y : Int} (h : S[k]? = some y) : namesI f (S.take (k + 1)) = namesI f (S.take k) ++ [nmI f y] := by unfold namesI; rw [take_succ_of h, List.map_append]; rfl
theorem namesI_len (f : List Ap) (S : List Int) : (namesI f S).length = S.length := by simp [namesI]
theorem strs_snoc (a : List ByteArray) (x : ByteArray) : strs (a ++ [x]) = strs a ++ [.string x] := by simp [strs]
theorem sendF_nm {f : List Ap} {S : List Int} {i : Nat} {a : Ap} (h : f[i]? = some a) : ∃ b, (sendF f S)[i]? = some b ∧ b.nm = a.nm ∧ b.nd = a.nd ∧ b.kd = a.kd := by
  rw [sendF_get, h]
  refine ⟨_, rfl, ?_⟩
  dsimp only
  split <;> exact ⟨rfl, rfl, rfl⟩
theorem sendF_congr {f : List Ap} {S T : List Int} (h : ∀ x, x ∈ S ↔ x ∈ T) : sendF f S = sendF f T := by
  unfold sendF
  simp only [h]
/-- What is sent: the fleet and the names, both of the call's own. -/
def Own2 (F : List Ap) (q : List ByteArray) (b : Bool) (w : World) (e : Ending) (w' : World) : Prop :=
  ∃ x y, e = .returned (.tuple #[x, y, .bool b]) ∧ w'.ownsRow w.heap.size 35 5 x F.length (F.flatMap Ap.cells) ∧ w'.ownsRow w.heap.size 9 1 y q.length (strs q) ∧ Sep x y ∧ Below w.heap.size w w'
end Go.Proofs.YtgcdgcidjjdhmaaGreatDoor

namespace Go.Proofs.YtgcdgcidjjdhmaaGreatDoor
set_option linter.unusedVariables false
set_option linter.unusedSimpArgs false
open Go.RowKit

theorem readyL_nodup2 (ev : List Int) (f : List Ap) : (readyL ev f).Nodup := by
  unfold readyL
  rw [(isort_perm _ _).nodup_iff]
  unfold selD
  exact nodup_map_of _ _ (nodup_filter _ List.nodup_range) (fun (x : Nat) _ (y : Nat) _ e => by have h : (x : Int) = (y : Int) := e; omega)
theorem own_down {w : World} {base base' : Nat} {e : TypeId} {sz : Nat} {v : Value} {n : Nat} {xs : List Value} (h : w.ownsRow base e sz v n xs) (hb : base' ≤ base) : w.ownsRow base' e sz v n xs := by
  refine ⟨h.1, h.2.imp id ?_⟩
  rintro ⟨g, cap, cur, e1, h1, r⟩
  exact ⟨g, cap, cur, e1, Nat.le_trans hb h1, r⟩
theorem miss_len4 (f : List Ap) : ∀ (L d : List Int), (missL f L d).length = d.length := by
  intro L
  induction L with
  | nil => intro d; rfl
  | cons i L ih => intro d; unfold missL; rw [List.foldl_cons]; have := ih (missStep f d i); unfold missL at this; rw [this]; unfold missStep; simp
end Go.Proofs.YtgcdgcidjjdhmaaGreatDoor

namespace Go.Proofs.YtgcdgcidjjdhmaaGreatDoor
set_option linter.unusedVariables false
set_option linter.unusedSimpArgs false
open Go.RowKit

theorem put_ap {F : List Ap} {i : Nat} {a b : Ap} (h : F[i]? = some b) : putAt (F.flatMap Ap.cells) (i * 5) a.cells = (F.set i a).flatMap Ap.cells := by
  have hi := (List.getElem?_eq_some_iff.1 h).1
  have ha := (List.getElem?_eq_some_iff.1 h).2
  have hd : F = F.take i ++ (b :: F.drop (i + 1)) := by rw [← ha, ← List.drop_eq_getElem_cons hi, List.take_append_drop]
  have hl : (F.take i).length = i := by rw [List.length_take]; omega
  have h2 : F.set i a = F.take i ++ (a :: F.drop (i + 1)) := by
    conv => lhs; rw [hd]
    rw [List.set_append_right _ _ (by omega), hl, Nat.sub_self]; rfl
  rw [h2]
  conv => lhs; rw [hd]
  rw [List.flatMap_append, List.flatMap_append, List.flatMap_cons, List.flatMap_cons]
  exact putAt_block _ _ _ _ (by rw [Ap.cells_len, Ap.cells_len]) _ (by rw [len_flat Ap.cells_len, hl])
/-- The fleet and the names, both of the call's own (two results). -/
def Own2p (F : List Ap) (q : List ByteArray) (w : World) (e : Ending) (w' : World) : Prop :=
  ∃ x y, e = .returned (.tuple #[x, y]) ∧ w'.ownsRow w.heap.size 35 5 x F.length (F.flatMap Ap.cells) ∧ w'.ownsRow w.heap.size 9 1 y q.length (strs q) ∧ Sep x y ∧ Below w.heap.size w w'
end Go.Proofs.YtgcdgcidjjdhmaaGreatDoor
