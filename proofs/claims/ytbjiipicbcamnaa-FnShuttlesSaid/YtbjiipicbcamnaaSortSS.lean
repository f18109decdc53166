/-
  slices.SortFunc at rows of ints of the call's own, by slices.Compare.
-/
import Derived.Test.YtbjiipicbcamnaaSortG
import Derived.Test.YtbjiipicbcamnaaSortFLay
namespace Go.Proofs.Ytbjiipicbcamnaa
open Go.RowKit Go.Sort Go.Shelf

theorem sortSS_c (w : World) (base : Nat) (v : Value) (vs : List Value) (ls S : List (List Int)) (h : SSv w base v vs ls) (hn : ls.Nodup) (hm : ∀ x, x ∈ S ↔ x ∈ ls) (hS : S.Pairwise fun a b => cmpL a b < 0) (hz : ls.length < 4611686018427387904) :
    Calls Try.prog 37 #[v, .func (.func 38) #[] #[]] w fun e w' => e = .returned (.tuple #[]) ∧ SS w' base v S ∧ w.grownBy w' v.ownBlock := by
  have nilcase : ∀ (A : Option Addr) (c : Nat), v = .slice A 0 c → ls = [] → Calls Try.prog 37 #[v, .func (.func 38) #[] #[]] w fun e w' => e = .returned (.tuple #[]) ∧ SS w' base v S ∧ w.grownBy w' v.ownBlock := by
    intro A c hv hl
    subst hv
    refine (Try.slices_SortFunc_none (α := Nat) A c _ w).mono ?_
    rintro e w' ⟨rfl, rfl⟩
    have hSn : S = ls := by
      rw [hl] at hm ⊢
      cases S with
      | nil => rfl
      | cons x S => exact absurd ((hm x).1 (by simp)) (by simp)
    exact ⟨rfl, ⟨vs, by rw [hSn]; exact h⟩, World.grownBy.refl _ _⟩
  rcases h.outer.2 with ⟨hv, h0⟩ | ⟨g, cap, cur, hv, hbase, hb, h1, h2, h3, h4⟩
  · exact nilcase none 0 hv (List.length_eq_zero_iff.1 h0)
  · by_cases hz0 : ls.length = 0
    · exact nilcase _ cap (by rw [hv, hz0]) (List.length_eq_zero_iff.1 hz0)
    · obtain ⟨N, hN⟩ : ∃ N, ls.length = N := ⟨_, rfl⟩
      have hvN : vs.length = N := by rw [← hN]; exact h.len
      haveI : Inhabited (Fin N) := ⟨⟨0, by omega⟩⟩
      have hmap := map_encF vs hvN
      have hsz : (List.finRange N).toArray.size = N := by simp
      have hH : Holds (encF vs hvN) w g 0 (List.finRange N).toArray := holds_of_blockG hb (by
        rw [hsz]
        show _ = (List.finRange N).map (encF vs hvN)
        rw [hmap, ← hN]
        simpa using h4)
      have hsep : ∀ i : Fin N, Sep v (encF vs hvN i) := fun i => h.sep i.1 _ (encF_get vs hvN i)
      have hin : ∀ (i : Fin N) (n : Nat) (os : Array Obj) (d : Array (Fin N)), (sortWorld (encF vs hvN) w g 0 n d os).ownsRow base 3 1 (encF vs hvN i) (llF ls hN i).length (ints (llF ls hN i)) := fun i n os d => by
        have gb : w.grownBy (sortWorld (encF vs hvN) w g 0 n d os) v.ownBlock := by rw [hv]; exact grownBy_sortedG d
        exact kept2 (h.inner i.1 _ _ (encF_get vs hvN i) (llF_get ls hN i)) gb (hsep i).symm
      have hC : CmpLays1 Try.prog 38 #[] (encF vs hvN) (cfF ls hN) g 0 (List.finRange N).toArray.size w := fun m os dk _ x y => by
        refine (compare_c (encF vs hvN x) (encF vs hvN y) (llF ls hN x) (llF ls hN y) _ (rdi_own (hin x m os dk)) (rdi_own (hin y m os dk))).mono ?_
        rintro e w' ⟨rfl, rfl⟩
        exact ⟨rfl, 0, #[], by rw [grow_empty]; rfl⟩
      have hcall := Try.slices_SortFunc_total (encF vs hvN) (fun i => own_one (h.inner i.1 _ _ (encF_get vs hvN i) (llF_get ls hN i))) (cfF ls hN) (swoF ls hN) 38 #[] g 0 cap (List.finRange N).toArray w
        (enters_of Try.func38 (by kernel_rfl) rfl) hC hH (Array.getElem?_eq_some_iff.1 hb).1 (by rw [hsz]; omega) (totF ls hN hn)
      rw [hsz] at hcall
      rw [hv, hN]
      refine hcall.mono ?_
      rintro e w' ⟨rfl, n, os, rfl⟩
      obtain ⟨D, hD⟩ : ∃ D, ((List.finRange N).mergeSort fun x y => !(ltOf (cfF ls hN)) y x) = D := ⟨_, rfl⟩
      have hp := List.mergeSort_perm (List.finRange N) (fun x y => !(ltOf (cfF ls hN)) y x)
      have hsort := sortedF ls hN hn S hm hS
      have e0 : (List.finRange N).toArray.toList = List.finRange N := rfl
      rw [e0, hD]
      rw [hD] at hp hsort
      have hDn := hp.symm.nodup (List.nodup_finRange N)
      have hDl : D.length = N := by rw [hp.length_eq]; simp
      refine ⟨rfl, ⟨D.map (encF vs hvN), ?_⟩, grownBy_sortedG _⟩
      rw [← hsort]
      have at1 : ∀ (i : Nat) (u : Value), (D.map (encF vs hvN))[i]? = some u → ∃ x, D[i]? = some x ∧ u = encF vs hvN x := fun i u hu => by
        rw [List.getElem?_map] at hu
        cases hx : D[i]? with
        | none => rw [hx] at hu; cases hu
        | some x => rw [hx] at hu; exact ⟨x, rfl, (Option.some.inj hu).symm⟩
      rw [hv, hN] at hsep
      refine ⟨by simp, ?_, fun i u l hu hl => ?_, fun i u hu => ?_, fun i j u u' hij hu hu' => ?_⟩
      · rw [List.length_map, hDl]
        have := ownsRow_sortedG (n := n) (os := os) (enc := encF vs hvN) (base := base) (m := N) (cap := cap) D.toArray (by simpa using hDl) hbase hb (by omega) h2 h3
        exact this
      · obtain ⟨x, hx, rfl⟩ := at1 i u hu
        rw [List.getElem?_map, hx] at hl
        obtain rfl := Option.some.inj hl
        exact hin x n os _
      · obtain ⟨x, hx, rfl⟩ := at1 i u hu
        exact hsep x
      · obtain ⟨x, hx, rfl⟩ := at1 i u hu
        obtain ⟨y, hy, rfl⟩ := at1 j u' hu'
        refine h.apart x.1 y.1 _ _ (fun e => ?_) (encF_get vs hvN x) (encF_get vs hvN y)
        have exy : x = y := Fin.ext e
        subst exy
        exact hij ((List.getElem?_inj (List.getElem?_eq_some_iff.1 hx).1 hDn).1 (hx.trans hy.symm))
end Go.Proofs.Ytbjiipicbcamnaa
