/- A part of the proof: T26. -/
import Derived.Test.YtdgkchedoooffaaT24
import Derived.Test.YtdgkchedoooffaaT12
import Derived.Test.YtdgkchedoooffaaTC7
set_option linter.unusedVariables false
set_option linter.unusedSimpArgs false
set_option linter.unusedSectionVars false
namespace Go.AM.Tb
set_option maxHeartbeats 4000000
def rdLL (P : List (List Int)) : AV := .rd 1 P.length (P.map fun r => .rd 1 r.length (iL r))
theorem isLL_rdLL (P : List (List Int)) : IsLL (rdLL P) P := by
  refine IsLL.rd _ P (by simp) fun i hi => ?_
  simp [List.getD, hi]
  exact rd_isL rfl
theorem rdLL_free (P : List (List Int)) : (rdLL P).idFree = true := rfl
theorem lb_frz' {H : Heap} {a : Nat} {is : List Nat} {P : List (List Int)} (h : LB H a is P) (hP : P.length ≤ 100) {k : Nat} (hk : 110 ≤ k) {n : Nat} (hn : P.length = n) : frzV H k (.sl a 1 0 n) = some (rdLL P) := by
  subst hn
  obtain ⟨k, rfl⟩ : ∃ j, k = j + 1 + 1 := ⟨k - 2, by omega⟩
  have hx := h.bx
  have h1 : H.data? a = none := by simp [Heap.data?, hx]
  have h2 : H.box? a = some (refs is (P.map iL)) := by simp [Heap.box?, hx]
  rw [frzV_sl, h1, h2, Option.none_or, Option.bind_some, frzL_refs is (P.map iL) k h.lnm (by have := h.ln; omega) h.rows]
  simp only [Option.bind_some, List.length_map, Nat.zero_add, Nat.mul_one, Nat.le_refl, if_true, List.drop_zero, List.map_map, rdLL]
  congr 2
  rw [List.take_of_length_le (by simp)]
  refine List.map_congr_left fun r hr => ?_
  simp [iL_len]
def HMB (m : List (AV × AV)) (P : List (List Int)) (n : Nat) : Heap := some (.map m) :: some (.box (refs (List.range' 2 P.length) (P.map iL) ++ List.replicate (n - P.length) .nilS)) :: rowsH (P.map iL)
theorem nil_free (n : Nat) {gs : List AV} (hg : idFreeL gs = true) : idFreeL (List.replicate n .nilS ++ gs) = true := by
  induction n with
  | zero => simpa using hg
  | succ n ih => simpa [List.replicate_succ, idFreeL, AV.idFree] using ih
theorem hmb_row {m : List (AV × AV)} {P : List (List Int)} {n i : Nat} (hi : i < P.length) : (HMB m P n)[2 + i]? = some (some (.data (iL (getLL P (i : Int))))) := by
  unfold HMB
  rw [show 2 + i = i + 1 + 1 by omega, List.getElem?_cons_succ, List.getElem?_cons_succ]
  exact rowsH_get (rows_at hi)
theorem gcHMB {pre gs : List AV} {m : List (AV × AV)} {P : List (List Int)} {n : Nat} (hp : idFreeL pre = true) (hpl : pre.length ≤ 20) (hg : idFreeL gs = true) (hP : P.length ≤ 100) :
    gc 0 (pre ++ .mp 0 :: .sl 1 1 0 n :: gs) (HMB m P n) = some (pre ++ .mp 0 :: .sl 1 1 0 n :: gs, HMB m P n) := by
  have hln : (List.range' 2 P.length).length = (P.map iL).length := by simp
  have hrows : ∀ (j i : Nat) (l : List AV), (List.range' 2 P.length)[j]? = some i → (P.map iL)[j]? = some l → (HMB m P n)[i]? = some (some (.data l)) := fun j i l hj hl => by
    obtain ⟨rfl, hjn⟩ := rng_get hj
    rw [hmb_row hjn]
    rw [rows_at hjn] at hl
    cases hl; rfl
  have hnd : (0 :: 1 :: List.range' 2 P.length).Nodup := by
    rw [List.nodup_cons, List.nodup_cons]
    exact ⟨by simp [List.mem_range'_1], by simp [List.mem_range'_1], List.nodup_range'⟩
  have hφ := nodupB_iff.2 hnd
  have q1 : posOf (0 :: 1 :: List.range' 2 P.length) 0 = some 0 := posOf_of_get hφ (j := 0) rfl
  have q2 : posOf (0 :: 1 :: List.range' 2 P.length) 1 = some 1 := posOf_of_get hφ (j := 1) rfl
  have pr : renL (posOf (0 :: 1 :: List.range' 2 P.length)) (refs (List.range' 2 P.length) (P.map iL)) = some (refs (List.range' 2 (List.range' 2 P.length).length) (P.map iL)) := renL_refs hφ _ _ 2 hln fun j i hj => by rw [Nat.add_comm]; exact hj
  rw [List.length_range'] at pr
  have pn : renL (posOf (0 :: 1 :: List.range' 2 P.length)) (List.replicate (n - P.length) .nilS) = some (List.replicate (n - P.length) .nilS) := renL_free _ (by have := nil_free (n - P.length) (gs := []) rfl; simpa using this)
  refine gc_of (φ := 0 :: 1 :: List.range' 2 P.length) ?_ hφ ?_ (Hp := HMB m P n) ?_ ?_
  · have e : reach (HMB m P n) 400 (rangeL 0 []) (roots (HMB m P n) (rangeL 0 []) ++ (pre ++ .mp 0 :: .sl 1 1 0 n :: gs)) = reach (HMB m P n) ((398 - pre.length) + 1 + 1) [] (.mp 0 :: .sl 1 1 0 n :: gs) := by
      rw [show reach (HMB m P n) 400 (rangeL 0 []) (roots (HMB m P n) (rangeL 0 []) ++ (pre ++ .mp 0 :: .sl 1 1 0 n :: gs)) = reach (HMB m P n) 400 [] (pre ++ .mp 0 :: .sl 1 1 0 n :: gs) from rfl, show (400 : Nat) = ((398 - pre.length) + 1 + 1) + pre.length by omega, reach_pre pre hp]
    rw [e, reach_mp]
    have b0 : boxCells (HMB m P n) 0 = [] := rfl
    have b1 : boxCells (HMB m P n) 1 = refs (List.range' 2 P.length) (P.map iL) ++ List.replicate (n - P.length) .nilS := rfl
    rw [b0]
    simp only [List.contains_nil, Bool.false_eq_true, if_false, List.nil_append]
    rw [reach_new, b1, if_neg (by simp), List.append_assoc, reach_refs' (by simp; omega) hln (fun i hi => by have := List.mem_range'_1.1 hi; simp; omega) List.nodup_range' (rows_box hln hrows), reach_free _ _ _ _ (nil_free _ hg)]
    simp
  · rw [renL_append, renL_free _ hp]
    simp [renL, AV.ren, q1, q2, renL_free _ hg]
  · have h1 : pickO (HMB m P n) (List.range' 2 P.length) = some (rowsH (P.map iL)) := pickO_refs _ _ hln hrows
    simp only [pickO, h1]
    rfl
  · simp only [HMB, renH, renO]
    rw [renL_append, pr, pn, renH_rows]
    rfl
theorem hmb_lb {m : List (AV × AV)} {P : List (List Int)} {n : Nat} (hn : P.length = n) : LB (HMB m P n) 1 (List.range' 2 P.length) P := by
  subst hn
  refine ⟨?_, by simp, fun j i hj => ?_, ?_⟩
  · simp [HMB]
  · obtain ⟨rfl, hjn⟩ := rng_get hj
    exact hmb_row hjn
  · rw [List.nodup_cons]
    exact ⟨by simp [List.mem_range'_1], List.nodup_range'⟩
theorem refs_lens : ∀ (is : List Nat) {R S : List (List AV)}, R.map List.length = S.map List.length → refs is R = refs is S
  | [], R, S, _ => by simp [refs]
  | i :: is, [], [], _ => rfl
  | i :: is, [], _ :: _, h => by simp at h
  | i :: is, _ :: _, [], h => by simp at h
  | i :: is, l :: R, k :: S, h => by
    simp only [List.map_cons, List.cons.injEq] at h
    simp only [refs, h.1, refs_lens is h.2]
theorem hmb_set {m : List (AV × AV)} {P : List (List Int)} {n i : Nat} {r : List Int} (hi : i < P.length) (hr : r.length = (getLL P (i : Int)).length) : (HMB m P n).set (2 + i) (some (.data (iL r))) = HMB m (P.set i r) n := by
  unfold HMB
  rw [show 2 + i = i + 1 + 1 by omega, List.set_cons_succ, List.set_cons_succ, List.length_set]
  have h1 : refs (List.range' 2 P.length) ((P.set i r).map iL) = refs (List.range' 2 P.length) (P.map iL) := by
    refine refs_lens _ ?_
    refine List.ext_getElem (by simp) fun j h1 h2 => ?_
    simp only [List.length_map, List.length_set] at h1 h2
    simp only [List.getElem_map, iL_len]
    by_cases e : j = i
    · subst e
      rw [getLL_nat] at hr
      simp [List.getD, hi] at hr
      simp [hr]
    · rw [List.getElem_set_ne (Ne.symm e)]
  rw [h1]
  congr 2
  simp [rowsH, List.map_set]
theorem hmb_push {m : List (AV × AV)} {P : List (List Int)} {n : Nat} {r : List Int} (hn : P.length < n) (hP : n ≤ 1000) :
    (∀ call, evE call (HMB m P n ++ [some (HO.data (iL r))]) (.st 1) [.ptr 1 (0 + ((P.length : Nat) : Int).toNat * 1), .sl (2 + P.length) 1 0 r.length] = some (.undef, HMB m (P ++ [r]) n)) := by
  intro call
  have hx : (HMB m P n ++ [some (HO.data (iL r))])[1]? = some (some (.box (refs (List.range' 2 P.length) (P.map iL) ++ List.replicate (n - P.length) .nilS))) := rfl
  have hrl : (refs (List.range' 2 P.length) (P.map iL)).length = P.length := by rw [refs_length (by simp)]; simp
  have := e_stX (call := call) hx (j := P.length) (v := .sl (2 + P.length) 1 0 r.length) (by simp [hrl]; omega) rfl rfl
  rw [show 0 + ((P.length : Nat) : Int).toNat * 1 = P.length by simp, this]
  have hset : (refs (List.range' 2 P.length) (P.map iL) ++ List.replicate (n - P.length) AV.nilS).set P.length (.sl (2 + P.length) 1 0 r.length) = refs (List.range' 2 (P ++ [r]).length) ((P ++ [r]).map iL) ++ List.replicate (n - (P ++ [r]).length) AV.nilS := by
    rw [List.set_append_right _ _ (by omega), hrl, Nat.sub_self]
    obtain ⟨d, hd⟩ : ∃ d, n - P.length = d + 1 := ⟨n - P.length - 1, by omega⟩
    rw [hd, List.replicate_succ, List.set_cons_zero]
    rw [List.length_append, List.length_singleton, List.range'_concat, List.map_append, refs_append (by simp)]
    rw [show n - (P.length + 1) = d by omega]
    simp [refs, iL_len]
  rw [hset]
  unfold HMB
  simp only [List.cons_append, List.set_cons_succ, List.set_cons_zero]
  rw [List.map_append, rowsH_append]
  rfl
end Go.AM.Tb
