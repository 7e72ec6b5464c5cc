/- The plain law of FnIsogenyClasses: what holds of a class, its edges and the groups of forms. Conditions: none. -/
import Derived.Test.YtnhgdmhiblpknaaIcM
import Derived.Test.YtnhgdmhiblpknaaIcF
namespace Go.Proofs.Ytnhgdmhiblpknaa
open Go Go.RowKit

structure ClF (a b : Int) (L : List Cu) : Prop where
  pos : 1 ≤ L.length
  le : L.length ≤ 8
  ed : edgesV L = (edTo L L.length, true)
  edl : L.length - 1 ≤ (edTo L L.length).length
  mem : ∀ k, k < L.length → clasV (cuS.get L k).a (cuS.get L k).b = (L, true) ∧ ∃ s : Int, s < (L.length : Int) ∧ stpV a b (cuS.get L k).a (cuS.get L k).b = (s, true) ∧ stpV (cuS.get L k).a (cuS.get L k).b a b = (s, true)
  two : ∀ x ∈ edTo L L.length, ∃ i k : Nat, x = [(i : Int), (k : Int)] ∧ i < L.length ∧ k < L.length ∧ twoV (cuS.get L i).a (cuS.get L i).b (cuS.get L k).a (cuS.get L k).b = (true, true) ∧ twoV (cuS.get L k).a (cuS.get L k).b (cuS.get L i).a (cuS.get L i).b = (true, true)
theorem stpO_at {T : List (Cu × Int)} {d : Cu} (h : d ∈ fsT T) : ∃ k, ∃ hk : k < T.length, T[k].1 = d ∧ stpO (some T) d = (T[k].2, true) := by
  have hlt := List.idxOf_lt_length_iff.2 h
  have hg := List.getElem_idxOf hlt
  have hT : (fsT T).idxOf d < T.length := by rw [← fsT_len]; exact hlt
  refine ⟨(fsT T).idxOf d, hT, ?_, ?_⟩
  · have h2 : (fsT T)[(fsT T).idxOf d] = T[(fsT T).idxOf d].1 := by simp only [fsT, List.getElem_map]
    rw [← h2]; exact hg
  · show (if d ∈ fsT T then ((T.getD ((fsT T).idxOf d) (d, 0)).2, true) else (0, false)) = _
    rw [if_pos h, List.getD_eq_getElem?_getD, List.getElem?_eq_getElem hT]
    rfl
theorem clF_of {a b : Int} {L : List Cu} (h : clasV a b = (L, true)) : ClF a b L := by
  unfold clasV at h
  by_cases hc : curveB a b = true
  · rw [if_pos hc] at h
    cases hT : clsV a b with
    | none => rw [hT] at h; cases h
    | some T =>
      rw [hT] at h
      have hL : srt T = L := congrArg Prod.fst h
      subst hL
      clear h
      have C := cls_of hc hT
      have hl := srt_len C
      have hmT : smC a b ∈ T.map Prod.fst := List.mem_map_of_mem (f := Prod.fst) C.fst
      have hgd : ∀ x, x ∈ srt T → curveB x.a x.b = true ∧ smC x.a x.b = x := fun x hx => have h9 := (C.okx ((srt_mem x).1 hx)).2; ⟨h9.1, gdC_self h9⟩
      have hgetm : ∀ k, k < (srt T).length → cuS.get (srt T) k ∈ srt T := fun k hk => by rw [getCu hk]; exact List.getElem_mem hk
      refine ⟨?_, by rw [hl]; exact C.len, C.edgesV, by have h9 := C.edges; omega, fun k hk => ?_, fun x hx => ?_⟩
      · have := List.length_pos_of_mem C.fst
        omega
      · have hd := hgetm k hk
        generalize cuS.get (srt T) k = d at hd
        obtain ⟨hcd, hsd⟩ := hgd d hd
        have hdT := (srt_mem d).1 hd
        obtain ⟨U, hU, CU, hUT⟩ := cls_other C hdT
        have hsu : srt U = srt T := srt_uniq (srt_srt U) (srt_srt T) (fun x => by rw [srt_mem, srt_mem, hUT])
        refine ⟨by unfold clasV; rw [if_pos hcd, hU]; show (srt U, true) = _; rw [hsu], ?_⟩
        obtain ⟨i, hi, hi1, hi2⟩ := stpO_at (T := T) (d := d) hdT
        obtain ⟨j, hj, hj1, hj2⟩ := stpO_at (T := U) (d := smC a b) ((hUT _).2 hmT)
        have hs := steps_sym C CU (List.getElem_mem hi) hi1 (List.getElem_mem hj) hj1
        refine ⟨T[i].2, ?_, ?_, ?_⟩
        · have := C.le i hi
          rw [hl]; omega
        · unfold stpV; rw [if_pos ⟨hc, hcd⟩, hsd, hT, hi2]
        · unfold stpV; rw [if_pos ⟨hcd, hc⟩, hU, hj2, hs]
      · obtain ⟨i, k, rfl, hik, hk, hm⟩ := edTo_of hx
        have hdi := hgetm i (by omega)
        have hdk := hgetm k hk
        refine ⟨i, k, rfl, by omega, hk, ?_, ?_⟩
        · unfold twoV
          rw [if_pos ⟨(hgd _ hdi).1, (hgd _ hdk).1⟩, if_pos (show (allV (cuS.get (srt T) i).a (cuS.get (srt T) i).b).2 = true from (C.okx ((srt_mem _).1 hdi)).1), (hgd _ hdk).2]
          rw [decide_eq_true (show cuS.get (srt T) k ∈ (allV (cuS.get (srt T) i).a (cuS.get (srt T) i).b).1 from hm)]
        · unfold twoV
          have hm2 := C.sym ((srt_mem _).1 hdi) hm
          rw [if_pos ⟨(hgd _ hdk).1, (hgd _ hdi).1⟩, if_pos (show (allV (cuS.get (srt T) k).a (cuS.get (srt T) k).b).2 = true from (C.okx ((srt_mem _).1 hdk)).1), (hgd _ hdi).2]
          rw [decide_eq_true (show cuS.get (srt T) i ∈ (allV (cuS.get (srt T) k).a (cuS.get (srt T) k).b).1 from hm2)]
  · rw [if_neg hc] at h; cases h
theorem clas_no {a b : Int} {L : List Cu} (h : clasV a b = (L, false)) : L = [] := by
  unfold clasV at h
  split at h
  · split at h
    · cases h
    · exact (congrArg Prod.fst h).symm
  · exact (congrArg Prod.fst h).symm
structure FoF (L : List Cu) (G : List (List Int)) : Prop where
  tot : totL G = L.length
  le : L.length ≤ 20
  grp : ∀ k, k < G.length → ∃ (h : Nat) (l : List Int), cat' G k = (h : Int) :: l ∧ h < L.length ∧ ∀ i, i < (cat' G k).length → ∃ j : Nat, inS.get (cat' G k) i = (j : Int) ∧ j < L.length ∧ isoV (cuS.get L h).a (cuS.get L h).b (cuS.get L j).a (cuS.get L j).b = (true, true)
theorem foF_of {L : List Cu} {G : List (List Int)} (h : formsV L = (G, true)) : FoF L G := by
  unfold formsV at h
  by_cases ho : okF L = true
  · rw [if_pos ho] at h
    have hG : frmV (mdl L) L.length = G := congrArg Prod.fst h
    subst hG
    clear h
    obtain ⟨hle, hok⟩ := okF_spec ho
    have F := frm (mdl L) L.length
    refine ⟨F.tot, hle, fun k hk => ?_⟩
    have hmk : cat' (frmV (mdl L) L.length) k ∈ frmV (mdl L) L.length := by rw [cat_at hk]; exact List.getElem_mem hk
    obtain ⟨h0, l, e, h1, -⟩ := F.ne _ hmk
    refine ⟨h0, l, e, h1, fun i hi => ?_⟩
    have hmi : inS.get (cat' (frmV (mdl L) L.length) k) i ∈ cat' (frmV (mdl L) L.length) k := by
      have e2 : inS.get (cat' (frmV (mdl L) L.length) k) i = (cat' (frmV (mdl L) L.length) k)[i] := by show (List.getD _ i 0) = _; rw [List.getD_eq_getElem?_getD, List.getElem?_eq_getElem hi]; rfl
      rw [e2]; exact List.getElem_mem hi
    obtain ⟨j, hj, hj2, hj3⟩ := F.mem _ hmk _ hmi
    refine ⟨j, hj, hj2, ?_⟩
    rw [e, hdG_cons, mdl_get hj2, mdl_get h1] at hj3
    unfold isoV
    rw [if_pos ⟨hok h0 h1, hok j hj2⟩, decide_eq_true hj3.symm]
  · rw [if_neg ho] at h; cases h
theorem forms_no {L : List Cu} {G : List (List Int)} (h : formsV L = (G, false)) : G = [] := by
  unfold formsV at h
  split at h
  · cases h
  · exact (congrArg Prod.fst h).symm
end Go.Proofs.Ytnhgdmhiblpknaa
