/-
  An appliance by its name: impl.findAppliance, spec.apFind.
-/
import Derived.Test.YtcpchdbhpcebeaaDsp
import Derived.Test.YtcpchdbhpcebeaaStrs
namespace Go.Proofs.Ytcpchdbhpcebeaa
open Go.RowKit

def findA (nm : ByteArray) (f : List Ap) : Int := idxG (fun a => decide (a.nm = nm)) f
theorem beq_nm (a b : ByteArray) : (a.toList == b.toList) = decide (a = b) := by
  by_cases h : a = b
  · subst h; simp
  · rw [decide_eq_false h]; exact beq_false_of_ne (fun e => h ((bl_iff _ _).1 e))
set_option maxHeartbeats 1000000 in
theorem isNm_c (x : Ap) (nm : ByteArray) (C : Nat) (w : World) (c0 : w.cell? ⟨C, 0, none⟩ = some (.string nm)) :
    Calls Try.prog 91 #[.agg #[.string x.nm, .int .i64 x.kd, .int .i64 x.nd, .int .i64 x.cr, .int .i64 x.sv], .pointer (some ⟨C, 0, none⟩)] w fun e w' => e = .returned (.bool (decide (x.nm = nm))) ∧ Below w.heap.size w w' := by
  have hC := World.block_lt_of_cell? w _ c0
  have c0' : ∀ o, (w.alloc o).cell? ⟨C, 0, none⟩ = some (.string nm) := fun o => (World.cell?_alloc_lt _ _ _ hC).trans c0
  rw [← beq_nm]
  go_enter Try.func91, Try.ntmps91
  go_wp2
  go_ret
  exact ⟨rfl, (by repeat (first | exact Below.refl _ _ | assumption | refine bel_al ?_ _ | refine bel_dr ?_ | refine below_drewN ?_ _ | refine bel_then ?_ (by assumption)))⟩
set_option maxRecDepth 100000 in
set_option maxHeartbeats 1000000 in
theorem findI_c (v : Value) (f : List Ap) (nm : ByteArray) (w : World) (hf : Rd w v f.length (f.flatMap Ap.cells)) :
    Calls Try.prog 59 #[v, .string nm] w fun e w' => e = .returned (.int .i64 (findA nm f)) ∧ Below w.heap.size w w' := by
  have HF := Lib.hid hf
  have hEG : ∀ args w, (callFunc 91 args).run Try.prog w = .ok (.enter 91 args) w := enters_of Try.func91 (by kernel_rfl) rfl
  have EG := Lib.hid hEG
  clear hf hEG
  go_enter Try.func59, Try.ntmps59
  go_wp2_with fail
  generalize hW : World.alloc w _ = w0
  have k0 : w0.cell? ⟨w.heap.size, 0, none⟩ = some (.string nm) := by subst hW; simp [go_sem]
  have hb0 : Below w.heap.size w w0 := by subst hW; exact bel_al (Below.refl _ _) _
  have z0 : w.heap.size < w0.heap.size := by subst hW; simp
  have HB := Lib.hid hb0
  have hs : SaysA 91 #[.pointer (some ⟨w.heap.size, 0, none⟩)] (fun a => decide (a.nm = nm)) f w0 := fun x _ W hbW => isNm_c x nm _ W ((hbW.cell (p := ⟨w.heap.size, 0, none⟩) z0).trans k0)
  have HS := Lib.hid hs
  clear hW hb0 k0 hs
  refine (indexAp_c 91 _ EG.out (fun a => decide (a.nm = nm)) _ f _ HS.out (rd_below HF.out HB.out)).mono ?_; rintro e w3 ⟨rfl, hb3⟩
  have HB3 := Lib.hid (bel_then HB.out hb3)
  clear hb3
  go_wp2
  go_ret
  exact ⟨rfl, HB3.out⟩
set_option maxRecDepth 100000 in
set_option maxHeartbeats 1000000 in
theorem apFind_c (v : Value) (f : List Ap) (nm : ByteArray) (w : World) (hf : Rd w v f.length (f.flatMap Ap.cells)) :
    Calls Try.prog 52 #[v, .string nm] w fun e w' => e = .returned (.int .i64 (findA nm f)) ∧ Below w.heap.size w w' := by
  obtain ⟨A, c, rfl, hc, hm, hr⟩ := hf
  rw [maxLen_eq] at hm
  go_enter Try.func52, Try.ntmps52
  go_wp2_with fail
  go_loopw [9] (fun i wr => ∃ k : Nat, k ≤ f.length ∧ i = .int .i64 k ∧ Hid (∀ y ∈ f.take k, decide (y.nm = nm) = false) ∧ Hid (Below w.heap.size w wr)) (fun i _ => f.length - (intOf i).toNat)
  case atStart => exact ⟨0, Nat.zero_le _, rfl, Lib.hid (by simp), Lib.hid (Below.refl _ _)⟩
  case round =>
    obtain ⟨k, hk, rfl, HN, HB⟩ := hrel
    by_cases hlt : k < f.length
    · obtain ⟨b, off, rfl, hbl, hcell⟩ := hr (by omega)
      obtain ⟨n2, kd, nd, cr, sv, hx, c0, c1, c2, c3, c4⟩ := ap_at' hcell HB.out hbl hlt
      have HX := Lib.hid hx
      clear hcell hx
      by_cases hpy : n2 = nm
      · have e0 : (n2.toList == nm.toList) = true := by rw [hpy]; simp
        have HF := Lib.hid (idxG_at (p := fun (a : Ap) => decide (a.nm = nm)) HX.out (decide_eq_true hpy) HN.out)
        clear hpy
        go_wp2
        go_ret
        refine ⟨?_, bel_al HB.out _⟩
        unfold findA
        rw [HF.out]; rfl
      · have e0 : (n2.toList == nm.toList) = false := by rw [beq_nm]; exact decide_eq_false hpy
        have HN2 : Hid (∀ y ∈ f.take (k + 1), decide (y.nm = nm) = false) := Lib.hid (fun y hy => by
          rw [take_succ_of HX.out] at hy
          rcases List.mem_append.1 hy with h | h
          · exact HN.out y h
          · rw [List.mem_singleton] at h; rw [h]; exact decide_eq_false hpy)
        clear hpy
        go_wp2
        exact ⟨⟨k + 1, by omega, by go_num, HN2, Lib.hid (bel_al HB.out _)⟩, by simp [intOf]; omega⟩
    · obtain rfl : k = f.length := by omega
      have h := HN.out
      rw [List.take_length] at h
      have HF := Lib.hid (idxG_none (p := fun (a : Ap) => decide (a.nm = nm)) h)
      clear h
      go_wp2
      go_ret
      unfold findA
      rw [HF.out]
      exact ⟨rfl, HB.out⟩
end Go.Proofs.Ytcpchdbhpcebeaa
