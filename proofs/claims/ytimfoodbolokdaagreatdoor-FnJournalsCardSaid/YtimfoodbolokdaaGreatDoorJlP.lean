/- Plain laws of the law FnJournals: an appended record is read behind the others; a synchronised journal keeps all; a compact one tells the same bounds, each curve once. Conditions: none. -/
import Derived.Test.YtimfoodbolokdaaGreatDoorRvP
import Derived.Test.YtimfoodbolokdaaGreatDoorAppR
import Derived.Test.YtimfoodbolokdaaGreatDoorComp
import Derived.Test.YtimfoodbolokdaaGreatDoorJcL
namespace Go.Proofs.YtimfoodbolokdaaGreatDoor
open Go Go.RowKit

theorem line_open {F : Nat} {k : Int} {r : Rc} (h : r.ok = true) (hk : 0 ≤ k ∧ k ≤ 29) : openF (F + 1) k (r.line k).data.toList = ([r], (r.line k).size) := by
  obtain ⟨hi, h0⟩ := line_ix k r
  have h1 := openF_step (F := F) (k := k) (l := (r.line k).data.toList) (r := r) h0 (by rw [line_take]; exact rdL_some h hk rfl)
  rw [h1, hi, show (r.line k).data.toList.drop (r.line k).size = [] from List.drop_length, openF_none (by decide)]
  rfl
theorem app_data (D P : ByteArray) : (D ++ P).data.toList = D.data.toList ++ P.data.toList := by simp
theorem app_law {D P X Y : ByteArray} {a b lo hi : Int} (h : apV D P a b lo hi = (X, Y, true)) :
    X = D ∧ jrOk D P = true ∧ jrOk X Y = true ∧ jrV X Y = jrV D P ++ [⟨a, b, lo, hi⟩] ∧ recB a b lo hi = true := by
  unfold apV at h
  split at h
  · rename_i hh
    simp only [Prod.mk.injEq, and_true] at h
    obtain ⟨rfl, rfl⟩ := h
    unfold apOk at hh
    simp only [Bool.and_eq_true, decide_eq_true_eq] at hh
    obtain ⟨hok, hr, hn⟩ := hh
    have h0 := of_decide_eq_true hok
    have hle := jrRecs_len D P
    rw [jrV_ok hok] at hn ⊢
    have hlen : (jrRecs D P).length = (jrA D).1.length + (jrN D P).1.length := by unfold jrRecs; rw [List.length_append]
    have h1 := openF_app (30 - (jrA D).1.length) ((jrA D).1.length : Int) P.data.toList ((⟨a, b, lo, hi⟩ : Rc).line (jrRecs D P).length).data.toList h0.2
    have e : jrN D (P ++ lineS (jrRecs D P).length a b lo hi) = ((jrN D P).1 ++ [⟨a, b, lo, hi⟩], P.size + ((⟨a, b, lo, hi⟩ : Rc).line (jrRecs D P).length).size) := by
      show openF _ _ (P ++ lineS (jrRecs D P).length a b lo hi).data.toList = _
      rw [app_data]
      refine Eq.trans h1 ?_
      have e2 : ((jrA D).1.length : Int) + ((jrN D P).1.length : Int) = ((jrRecs D P).length : Int) := by omega
      have e3 : 30 - (jrA D).1.length - (jrN D P).1.length = (29 - (jrRecs D P).length) + 1 := by omega
      show ((jrN D P).1 ++ (openF (30 - (jrA D).1.length - (jrN D P).1.length) (((jrA D).1.length : Int) + ((jrN D P).1.length : Int)) _).1, P.size + (openF (30 - (jrA D).1.length - (jrN D P).1.length) (((jrA D).1.length : Int) + ((jrN D P).1.length : Int)) _).2) = _
      rw [e2, e3, line_open (r := ⟨a, b, lo, hi⟩) (k := ((jrRecs D P).length : Int)) hr (by omega)]
    have hok2 : jrOk D (P ++ lineS (jrRecs D P).length a b lo hi) = true := by
      unfold jrOk
      refine decide_eq_true ⟨h0.1, ?_⟩
      rw [e, ByteArray.size_append]; rfl
    refine ⟨rfl, hok, hok2, ?_, hr⟩
    rw [jrV_ok hok2]
    unfold jrRecs
    rw [show lineS ((jrA D).1 ++ (jrN D P).1).length a b lo hi = lineS (jrRecs D P).length a b lo hi from rfl, e, List.append_assoc]
  · simp at h
theorem sync_law {D P X : ByteArray} (h : syV D P = (X, true)) : jrOk D P = true ∧ jrOk X ⟨#[]⟩ = true ∧ jrV X ⟨#[]⟩ = jrV D P := by
  unfold syV at h
  split at h
  · rename_i hok
    simp only [Prod.mk.injEq, and_true] at h
    subst h
    have h0 := of_decide_eq_true hok
    have hb := jr_both (P := P) h0.1
    have hok2 : jrOk (D ++ P) ⟨#[]⟩ = true := by
      unfold jrOk
      refine decide_eq_true ⟨?_, by rw [jrN_nil]; rfl⟩
      rw [hb, ByteArray.size_append]
      show D.size + (jrN D P).2 = _
      rw [h0.2]
    refine ⟨hok, hok2, ?_⟩
    rw [jrV_ok hok2, jrV_ok hok]
    show (jrA (D ++ P)).1 ++ (jrN (D ++ P) ⟨#[]⟩).1 = _
    rw [jrN_nil, hb, List.append_nil]
  · simp at h
theorem sy_ok (D P : ByteArray) : (syV D P).2 = jrOk D P := by unfold syV; cases jrOk D P <;> rfl

/-! ### Compact journals -/
theorem cmpP_open {l : List Rc} (hl : l.length ≤ 30) (hr : ∀ r ∈ l, r.ok = true) : ∀ k, k ≤ l.length → jrA (cmpP l k) = (l.take k, (cmpP l k).size)
  | 0, _ => by rw [List.take_zero]; exact openF_none (show Lib.indexByte [] 10 < 0 by decide)
  | k + 1, hk => by
    have ih := cmpP_open hl hr k (by omega)
    have hm : rcS.get l k ∈ l := get_mem (by omega)
    have h1 := openF_app 30 0 (cmpP l k).data.toList ((rcS.get l k).line k).data.toList (show (jrA (cmpP l k)).2 = (cmpP l k).size by rw [ih])
    have h2 : (openF 30 0 (cmpP l k).data.toList).1 = l.take k := congrArg Prod.fst ih
    rw [h2, List.length_take, Nat.min_eq_left (by omega), Int.zero_add, show 30 - k = (29 - k) + 1 by omega, line_open (hr _ hm) (by omega)] at h1
    show openF 30 0 (cmpP l k ++ (rcS.get l k).line k).data.toList = _
    rw [app_data]
    refine h1.trans ?_
    rw [rc_take (by omega)]
    refine Prod.ext rfl ?_
    show _ = (cmpP l k ++ (rcS.get l k).line k).size
    rw [ByteArray.size_append]
    rfl
theorem bestL_inv {all : List Rc} : ∀ (rs acc l : List Rc), Inv all acc → bestL all rs acc = some l → Inv all l
  | [], acc, l, h, e => by unfold bestL at e; cases e; exact h
  | r :: rs, acc, l, h, e => by
    unfold bestL at e
    split at e
    · exact bestL_inv rs acc l h e
    · split at e
      · rename_i hb
        exact bestL_inv rs _ l (h.snoc hb) e
      · cases e
theorem bestV_inv (all : List Rc) : Inv all (bestV all).1 := by
  cases h : bestO all with
  | none => rw [bestV_none h]; exact Inv.nil _
  | some l => rw [bestV_some h]; exact bestL_inv all [] l (Inv.nil _) h
theorem dst_uni {B : List Rc} (hd : B.Pairwise dst) {r s : Rc} (hr : r ∈ B) (hs : s ∈ B) (ha : s.a = r.a) (hb : s.b = r.b) : s = r := by
  obtain ⟨i, hi, rfl⟩ := List.getElem_of_mem hr
  obtain ⟨j, hj, rfl⟩ := List.getElem_of_mem hs
  rw [List.pairwise_iff_getElem] at hd
  rcases Nat.lt_trichotomy i j with h | h | h
  · exact absurd ⟨ha.symm, hb.symm⟩ (hd i j hi hj h)
  · subst h; rfl
  · exact absurd ⟨ha, hb⟩ (hd j i hj hi h)
theorem rc_bd {r : Rc} (h : r.ok = true) : 0 ≤ r.lo ∧ r.lo ≤ r.hi ∧ r.hi ≤ 20 := by
  unfold Rc.ok recB at h
  simp only [Bool.and_eq_true, decide_eq_true_eq] at h
  omega
/-- Where each curve comes once, its bounds are its record's. -/
theorem bndV_own {B : List Rc} (hd : B.Pairwise dst) (hok : ∀ r ∈ B, r.ok = true) {r : Rc} (hr : r ∈ B) : bndV r.a r.b B = (r.lo, r.hi, true) := by
  have hb := rc_bd (hok r hr)
  have h1 := bfold_uni (a := r.a) (b := r.b) hb.1 hb.2.2 B (fun s hs ha hb2 => by rw [dst_uni hd hr hs ha hb2]; exact ⟨rfl, rfl⟩) (0, 20, false) (Or.inl rfl)
  rw [if_pos (List.any_eq_true.2 ⟨r, hr, decide_eq_true ⟨rfl, rfl⟩⟩)] at h1
  unfold bndV
  rw [show bfold r.a r.b B = _ from h1, if_pos ⟨rfl, hb.2.1⟩]
theorem bestL_self {B : List Rc} (hd : B.Pairwise dst) (hok : ∀ r ∈ B, r.ok = true) : ∀ (rs acc : List Rc), acc ++ rs = B → bestL B rs acc = some B
  | [], acc, e => by unfold bestL; rw [← e, List.append_nil]
  | r :: rs, acc, e => by
    have hr : r ∈ B := by rw [← e]; simp
    have hb := bndV_own hd hok hr
    have hn : acc.any (sameC r.a r.b) = false := by
      rw [List.any_eq_false]
      intro s hs hsc
      have h2 := of_decide_eq_true hsc
      rw [← e, List.pairwise_append] at hd
      exact hd.2.2 s hs r (by simp) h2
    unfold bestL
    rw [hn, if_neg Bool.false_ne_true, hb, if_pos rfl]
    exact bestL_self hd hok rs (acc ++ [r]) (by rw [List.append_assoc]; exact e)
theorem bestV_self {B : List Rc} (hd : B.Pairwise dst) (hok : ∀ r ∈ B, r.ok = true) : bestV B = (B, true) := bestV_some (bestL_self hd hok B [] rfl)
theorem bi_of {D P : ByteArray} {r : Rc} (hok : jrOk D P = true) (hr : r ∈ (bestV (jrV D P)).1) : biV D P r.a r.b = (r.lo, r.hi, true) := by
  have h1 := bestV_inv (jrV D P) r hr
  have h2 := (bestV_ok (jrV_rok D P)).1 r hr
  unfold biV
  rw [if_pos ⟨hok, curve_of_ok h2⟩]
  refine Prod.ext h1.2.1.symm (Prod.ext h1.2.2.symm h1.1)
theorem co_ok {D P : ByteArray} (h : (coV D P).2 = true) : jrOk D P = true ∧ (bestV (jrV D P)).2 = true := by
  unfold coV at h
  split at h
  · assumption
  · cases h
theorem jrV_le (D P : ByteArray) : (jrV D P).length ≤ 30 := by
  unfold jrV
  split
  · exact jrRecs_len D P
  · exact Nat.zero_le _
theorem comp_law {D P X : ByteArray} (h : coV D P = (X, true)) : jrOk D P = true ∧ jrOk X ⟨#[]⟩ = true ∧ X.size ≤ 1200 ∧ coV X ⟨#[]⟩ = (X, true) ∧
    (∀ j, j < (jrV X ⟨#[]⟩).length → biV D P (rcS.get (jrV X ⟨#[]⟩) j).a (rcS.get (jrV X ⟨#[]⟩) j).b = ((rcS.get (jrV X ⟨#[]⟩) j).lo, (rcS.get (jrV X ⟨#[]⟩) j).hi, true)) ∧
    (∀ i j, i < j → j < (jrV X ⟨#[]⟩).length → dst (rcS.get (jrV X ⟨#[]⟩) j) (rcS.get (jrV X ⟨#[]⟩) i)) := by
  obtain ⟨hok, hbest⟩ := co_ok (D := D) (P := P) (by rw [h])
  have hX : X = cmpP (bestV (jrV D P)).1 (bestV (jrV D P)).1.length := by
    unfold coV at h
    rw [if_pos ⟨hok, hbest⟩] at h
    exact (Prod.mk.inj h).1.symm
  have hB := bestV_ok (jrV_rok D P)
  have hd := bestV_dst (jrV D P)
  have hl := jrV_le D P
  have hbi := fun r => bi_of (r := r) hok
  generalize (bestV (jrV D P)).1 = B at hX hB hd hbi
  have h1 := cmpP_open (l := B) (by omega) hB.1 B.length (Nat.le_refl _)
  rw [List.take_length, ← hX] at h1
  have hok2 : jrOk X ⟨#[]⟩ = true := by
    unfold jrOk
    exact decide_eq_true ⟨by rw [h1], by rw [jrN_nil]; rfl⟩
  have hv : jrV X ⟨#[]⟩ = B := by
    rw [jrV_ok hok2]
    unfold jrRecs
    rw [jrN_nil, h1, List.append_nil]
  have hself := bestV_self hd hB.1
  refine ⟨hok, hok2, by have := jr_size hok2; omega, ?_, ?_, ?_⟩
  · unfold coV
    rw [hv, hself, if_pos ⟨hok2, rfl⟩, hX]
  · rw [hv]
    exact fun j hj => hbi _ (get_mem hj)
  · rw [hv]
    intro i j hij hj
    rw [List.pairwise_iff_getElem] at hd
    have h2 := hd i j (by omega) hj hij
    have g : ∀ k (hk : k < B.length), rcS.get B k = B[k] := fun k hk => by unfold Shape.get; rw [List.getD_eq_getElem?_getD, List.getElem?_eq_getElem hk]; rfl
    rw [g j hj, g i (by omega)]
    exact fun e => h2 ⟨e.1.symm, e.2.symm⟩
theorem jc_law {D P : ByteArray} {es : List En} (h : jcV D P = (es, true)) : (coV D P).2 = true ∧ catB es = true ∧ ∀ j, j < es.length → biV D P (enS.get es j).a (enS.get es j).b = ((enS.get es j).lo, (enS.get es j).hi, true) ∧ (enS.get es j).«to» = 0 := by
  cases hb : jcB D P
  · rw [jcV_no hb] at h; simp at h
  · rw [jcV_yes hb] at h
    have he : jcZ ((bestV (jrV D P)).1.map enR) = es := (Prod.mk.inj h).1
    unfold jcB at hb
    simp only [Bool.and_eq_true] at hb
    obtain ⟨⟨hok, hbe⟩, hc⟩ := hb
    rw [he] at hc
    refine ⟨by unfold coV; rw [if_pos ⟨hok, hbe⟩], hc, fun j hj => ?_⟩
    have hB := bestV_ok (jrV_rok D P)
    have hs := jcZ_spec (map_dE (bestV_dst (jrV D P))) (fun x hx => by
      obtain ⟨r, hr, rfl⟩ := List.mem_map.1 hx
      exact enR_ent (hB.1 r hr))
    rw [he] at hs
    have hm := hs.2.2.mem_iff.1 (getE_mem hj)
    obtain ⟨r, hr, e⟩ := List.mem_map.1 hm
    rw [← e]
    exact ⟨bi_of hok hr, rfl⟩
theorem bi_bd {D P : ByteArray} {a b lo hi : Int} (h : biV D P a b = (lo, hi, true)) : lo ≤ hi := by
  unfold biV at h
  split at h
  · have h2 := bndV_bd (a := a) (b := b) (rs := jrV D P) (by rw [h])
    rw [h] at h2
    exact h2.2.1
  · simp at h
end Go.Proofs.YtimfoodbolokdaaGreatDoor
