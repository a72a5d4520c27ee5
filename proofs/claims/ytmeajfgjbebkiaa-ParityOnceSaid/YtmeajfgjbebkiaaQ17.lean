/- A part of the proof: Q17. -/
import Derived.Test.YtmeajfgjbebkiaaQ16
import Derived.Test.YtmeajfgjbebkiaaQ12
set_option linter.unusedSectionVars false
set_option linter.unusedVariables false
set_option linter.unusedSimpArgs false
namespace Go.AM.Pa
attribute [local go_sem] gc subHeap reach_skip ren_free reach_new reach_newp reach_end rangeL roots boxCells nodupB posOf renL AV.ren pickO renH renO looks look bindEnv envOf reach_int reach_bool reach_nilS reach_rd putRow cells_sl cells_int cells_bool cells_nilS cells_rd cells_agg reach_agg reach_tup idFreeL idf_sl idf_ptr idf_int idf_bool idf_nilS idf_rd
def walk (pl : List Int) : Nat → List Int → Int → List Int × Int
  | 0, l, v => (l, v)
  | k + 1, l, v => if v ∈ l then (l, v) else walk pl k (l ++ [v]) (getI pl v)
def topR (rk : List Int) : List Int → Int → Int
  | [], t => t
  | u :: r, t => topR rk r (if getI rk u > t then getI rk u else t)
def mk (n : Nat) (l : List Int) : List Bool := mark (List.replicate n false) l
theorem mk_len (n : Nat) (l : List Int) : (mk n l).length = n := by simp [mk, mark_len]
theorem mk_app (n : Nat) (l : List Int) (v : Int) : mk n (l ++ [v]) = (mk n l).set v.toNat true := by simp [mk, mark]
theorem getB_mk {n : Nat} {l : List Int} (h : ∀ u ∈ l, 0 ≤ u ∧ u < n) (i : Nat) : getB (mk n l) i = decide ((i : Int) ∈ l) := by
  have := getB_mark l (List.replicate n false) n (by simp) h i
  rw [mk, this]
  have e : getB (List.replicate n false) i = false := by
    rw [getB_nat]
    simp only [List.getD]
    rw [List.getElem?_replicate]
    split <;> rfl
  rw [e, Bool.false_or]
theorem cf_app {n : Nat} {l : List Int} (h : ∀ u ∈ l, 0 ≤ u ∧ u < n) {v : Int} (hv : 0 ≤ v ∧ v < n) (hn : ¬ v ∈ l) : cf (mk n (l ++ [v])) < cf (mk n l) := by
  rw [mk_app]
  refine cf_set ?_ (by rw [mk_len]; omega)
  have := getB_mk h v.toNat
  rw [getB_nat] at this
  rw [this]
  have e : ((v.toNat : Nat) : Int) = v := by omega
  rw [e]
  simp [hn]
/-- what holds on the way -/
def Way (n : Nat) (l : List Int) (v : Int) : Prop := (0 ≤ v ∧ v < n) ∧ (∀ u ∈ l, 0 ≤ u ∧ u < n) ∧ l.length + cf (mk n l) ≤ n
theorem way_zero {n : Nat} {v : Int} (h : 0 ≤ v ∧ v < n) : Way n [] v := by
  refine ⟨h, fun u hu => by simp at hu, ?_⟩
  have := cf_le (mk n [])
  rw [mk_len] at this
  simpa using this
theorem way_succ {n : Nat} {l : List Int} {v w : Int} (h : Way n l v) (hn : ¬ v ∈ l) (hw : 0 ≤ w ∧ w < n) : Way n (l ++ [v]) w := by
  obtain ⟨h1, h2, h3⟩ := h
  have := cf_app h2 h1 hn
  refine ⟨hw, fun u hu => ?_, ?_⟩
  · rcases List.mem_append.1 hu with h | h
    · exact h2 u h
    · simp at h; subst h; exact h1
  · simp; omega
def wayV (l : List Int) : AV := match l with
  | [] => .nilS
  | _ :: cs => .sl 1 1 0 (cs.length + 1)
def wayH (b : Option HO) (l : List Int) : Heap := match l with
  | [] => [b]
  | c :: cs => [b, some (.data (iL (c :: cs)))]
theorem iL_app1 (l : List Int) (v : Int) : iL l ++ [.int .i64 v] = iL (l ++ [v]) := by simp [iL]
theorem fin_4 {n1 n2 n3 n4 : Nat} {env : Env} {H : Heap} {res : R} {a b c d : AV} (h1 : look env n1 = a) (h2 : look env n2 = b) (h3 : look env n3 = c) (h4 : look env n4 = d) (f1 : a.idFree = true) (f2 : b.idFree = true) (f3 : c.idFree = true) (f4 : d.idFree = true) (e : some (.tup [a, b, c, d], []) = res) : finish 0 [.t n1, .t n2, .t n3, .t n4] env H = res := by
  simp [finish, ress, resOf, h1, h2, h3, h4, tupOf, gc_free (vs := [.tup [a, b, c, d]]) (by simp [idFreeL, AV.idFree, f1, f2, f3, f4]) H, ← e]
def playA (l : List Int) (v : Int) : List Int := l.take (l.idxOf v)
def playB (l : List Int) (v : Int) : List Int := l.drop (l.idxOf v)
def playV (l : List Int) (v : Int) : AV := .rd 1 (l.idxOf v) (iL (playA l v))
def playW (l : List Int) (v : Int) : AV := .rd 1 (l.length - l.idxOf v) (iL (playB l v))
set_option maxHeartbeats 4000000
theorem f25 {x t : AV} {a : Gm} {pl : List Int} {p : Int} (hx : IsG x a) (ht : IsL t pl) (ha : a.next.length < 50 ∧ ∀ l ∈ a.next, l.length < 50) (hp : pl.length < 50) (m : Nat) (hm : 107 ≤ m) :
    evF tab it m 25 [x, .int .i64 p, t] [] = some (if Good a ∧ (0 ≤ p ∧ p ≤ (a.next.length : Int) - 1) ∧ OkPlan a pl then
      .tup [playV (walk pl 30 [] p).1 (walk pl 30 [] p).2, playW (walk pl 30 [] p).1 (walk pl 30 [] p).2, .int .i64 ((topR a.rank (playB (walk pl 30 [] p).1 (walk pl 30 [] p).2) 0).tmod 2), .int .i64 0]
      else .tup [.nilS, .nilS, .int .i64 0, .int .i64 2], []) := by
  obtain ⟨m, rfl⟩ : ∃ j, m = j + 1 := ⟨m - 1, by omega⟩
  have hx' := hx
  obtain ⟨xo, xr, xn, rfl, ho, hr, hn⟩ := hx
  have fo := ho.free; have fr := hr.free; have fn := hn.free; have ft := ht.free
  have ob : ∀ call, evE call [] (.box false) [.agg [xo, xr, xn]] = some (.ptr 0 0, [some (.box [xo, xr, xn])]) := fun call => by simp [evE, AV.cells, oneL, ho.one, hr.one, hn.one, mkHO]
  refine f_enter rfl rfl ?_
  repeat' first
 | (apply s_mov; (focus ((conv => lhs; whnf); done)))
 | (apply s_gT; exact rfl)
 | (apply s_gF; exact rfl)
 | (apply s_gFD; exact rfl)
 | (apply c_nil)
 | (apply s_pickT; exact rfl; (focus ((conv => lhs; whnf); done)))
 | (apply s_pickF; exact rfl; (focus ((conv => lhs; whnf); done)))
 | (apply s_notT; exact rfl)
 | (apply s_notF; exact rfl)
 | ((first | apply s_add | apply s_sub); exact rfl; omega)
 | (apply s_en; (focus (repeat (first | apply opds_nil | (apply opds_cons; (first | (focus ((conv => lhs; whnf); done)) | exact rfl))))); exact ob _)
 | (apply isE; refine s_cB (by (focus (repeat (first | apply opds_nil | (apply opds_cons; (first | (focus ((conv => lhs; whnf); done)) | exact rfl)))))) (c39 hx' ⟨by omega, fun l hl => by have := ha.2 l hl; omega⟩ (by omega) _) (fun _ => ?_) (fun _ => ?_))
 | (apply isE; refine s_cB (by (focus (repeat (first | apply opds_nil | (apply opds_cons; (first | (focus ((conv => lhs; whnf); done)) | exact rfl)))))) (c40 (by omega) _ _ _ _) (fun _ => ?_) (fun _ => ?_))
 | (apply isE; refine s_cB (by (focus (repeat (first | apply opds_nil | (apply opds_cons; (first | (focus ((conv => lhs; whnf); done)) | exact rfl)))))) (c49 hx' ht ha hp (by omega) _) (fun _ => ?_) (fun _ => ?_))
 | (apply s_lenLL; (focus ((conv => lhs; whnf); done)); assumption)
 | (apply s_pd; (focus ((conv => lhs; whnf); done)))
 | (apply c_seq)
 | (apply c_reg)
 | (apply c_block)
 | (apply c_skip)
 | (apply c_ret)
 | (apply c_condT; exact rfl)
 | (apply c_condF; exact rfl)
 | (with_reducible apply k_c)
  any_goals (refine fin_4 (by (conv => lhs; whnf)) (by (conv => lhs; whnf)) (by (conv => lhs; whnf)) (by (conv => lhs; whnf)) (by rfl) (by rfl) (by rfl) (by rfl) ?_; rw [if_neg]; rintro ⟨h1, h2, h3⟩; contradiction)
  rw [if_pos ⟨by assumption, by assumption, by assumption⟩]
  have hg : Good a := by assumption
  have hp0 : 0 ≤ p ∧ p ≤ (a.next.length : Int) - 1 := by assumption
  have hpl : OkPlan a pl := by assumption
  have hg1 := hg.1; have hg2 := hg.2.1; have hg3 := hg.2.2.1
  have hpl1 := hpl.1
  generalize hnn : a.next.length = n at *
  have hrange : ∀ v : Int, 0 ≤ v ∧ v < n → 0 ≤ getI pl v ∧ getI pl v < n := fun v hv => by
    obtain ⟨k, rfl⟩ : ∃ k : Nat, v = (k : Int) := ⟨v.toNat, by omega⟩
    exact row_mem hg hnn (v := k) (by omega) _ (hpl.2 k (by omega))
  generalize hF : walk pl 30 [] p = FIN
  refine c_loop ?_
  refine loop_gc (σ := Nat × List Int × Int) (fun s => [t, .ptr 0 0, wayV s.2.1, .int .i64 s.2.2]) (fun s => wayH (some (.box [xo, xr, xn])) s.2.1) (fun s => Way n s.2.1 s.2.2 ∧ walk pl s.1 s.2.1 s.2.2 = FIN ∧ cf (mk n s.2.1) < s.1) (fun s => s.1) ?_ _ (30, [], p) _ _ ⟨way_zero (by simp only; omega), hF, ?_⟩ (by simp; omega) (by simp [go_sem, fo, fr, fn, ft, wayH, wayV]; done)
  · intro ⟨k, l, v⟩ ⟨hw, hwk, hcf⟩ K hK
    simp only at hw hwk hcf hK ⊢
    obtain ⟨k, rfl⟩ : ∃ j, k = j + 1 := ⟨k - 1, by omega⟩
    simp only [walk] at hwk
    have hws := fun h => @way_succ n l v (getI pl v) hw h (hrange v hw.1)
    have hcs := fun h => @cf_app n l hw.2.1 v hw.1 h
    have hlen := hw.2.2
    have hv := hw.1
    rcases l with _ | ⟨c, cs⟩
    · simp only [wayV, wayH]
      repeat' first
 | (apply s_mov; (focus ((conv => lhs; whnf); done)))
 | (apply c_nil)
 | (apply s_notT; exact rfl)
 | (apply s_notF; exact rfl)
 | (apply isE; refine s_cB (by (focus (repeat (first | apply opds_nil | (apply opds_cons; (first | (focus ((conv => lhs; whnf); done)) | exact rfl)))))) (c51 .nil (by simp) (by omega) _) (fun _ => ?_) (fun _ => ?_))
 | (apply s_en; (focus (repeat (first | apply opds_nil | (apply opds_cons; (first | (focus ((conv => lhs; whnf); done)) | exact rfl))))); exact e_bld1 rfl rfl rfl rfl)
 | (apply s_en; (focus (repeat (first | apply opds_nil | (apply opds_cons; (first | (focus ((conv => lhs; whnf); done)) | exact rfl))))); exact e_app_nil rfl (by omega) (by decide))
 | (apply s_idx; (focus ((conv => lhs; whnf); done)); exact rfl; (first | assumption | (apply IsLL.at; assumption; omega)); omega)
 | (apply s_ldI; exact rfl; omega)
 | (apply c_seq)
 | (apply c_reg)
 | (apply c_block)
 | (apply c_exitH)
 | (apply c_skip)
 | (apply c_condT; exact rfl)
 | (apply c_condF; exact rfl)
 | (with_reducible apply k_c)
      · exact absurd ‹v ∈ []› (by simp)
      · rename_i hnv
        rw [if_neg hnv] at hwk
        refine hK (k, [] ++ [v], getI pl v) _ _ ⟨hws hnv, hwk, ?_⟩ (by simp) ?_
        · have := hcs hnv; simp only; omega
        · exact (by simp [go_sem, fo, fr, fn, ft, wayH, wayV, iL]; done)
    · have hlen' : cs.length + 1 ≤ 24 := by simp at hlen; omega
      have hil : (iL (c :: cs)).length = cs.length + 1 := by rw [iL_len]; rfl
      simp only [wayV, wayH]
      repeat' first
 | (apply s_mov; (focus ((conv => lhs; whnf); done)))
 | (apply c_nil)
 | (apply s_notT; exact rfl)
 | (apply s_notF; exact rfl)
 | (apply isE; refine s_cB (by (focus (repeat (first | apply opds_nil | (apply opds_cons; (first | (focus ((conv => lhs; whnf); done)) | exact rfl)))))) (c51s (l := c :: cs) rfl (by simp) (by simp; omega) (by omega)) (fun _ => ?_) (fun _ => ?_))
 | (apply s_en; (focus (repeat (first | apply opds_nil | (apply opds_cons; (first | (focus ((conv => lhs; whnf); done)) | exact rfl))))); exact e_bld1 rfl rfl rfl rfl)
 | (apply s_en; (focus (repeat (first | apply opds_nil | (apply opds_cons; (first | (focus ((conv => lhs; whnf); done)) | exact rfl))))); exact e_app_sl rfl hil (by omega) (by unfold most; omega))
 | (apply s_idx; (focus ((conv => lhs; whnf); done)); exact rfl; (first | assumption | (apply IsLL.at; assumption; omega)); omega)
 | (apply s_ldI; exact rfl; omega)
 | (apply c_seq)
 | (apply c_reg)
 | (apply c_block)
 | (apply c_exitH)
 | (apply c_skip)
 | (apply c_condT; exact rfl)
 | (apply c_condF; exact rfl)
 | (with_reducible apply k_c)
      · rename_i hv2
        clear hK hws hcs
        rw [if_pos hv2] at hwk
        subst hwk
        simp only
        generalize hll : c :: cs = l at *
        have hl1 : l.length = cs.length + 1 := by rw [← hll]; rfl
        rw [← hl1] at hil hlen' ⊢
        have hix : l.idxOf v < l.length := List.idxOf_lt_length_of_mem hv2
        have h52 := fun (id : Nat) H (h : Heap.data? H id = some (iL l)) => c52s (v := v) h rfl (by omega) (m := m) (by omega)
        simp only [if_pos hv2] at h52
        simp only [playV, playW, playA, playB]
        generalize hat : l.idxOf v = q at *
        have hmem : ∀ j : Nat, j < l.length → 0 ≤ getI l j ∧ getI l j < n := fun j hj => by
          have := hw.2.1 (getI l j) (by rw [getI_nat]; simp [List.getD, hj])
          exact this
        have hcl : (l.drop q).take (l.length - q) = l.drop q := List.take_of_length_le (by simp)
        refine c_pre (vs := [.ptr 0 0, .sl 1 1 0 l.length, .int .i64 v]) (H' := [some (.box [xo, xr, xn]), some (.data (iL l))]) (by simp [go_sem, fo, fr, fn]; done) ?_
        repeat' first
 | (apply s_mov; (focus ((conv => lhs; whnf); done)))
 | (apply c_nil)
 | (apply s_cn; (focus (repeat (first | apply opds_nil | (apply opds_cons; (first | (focus ((conv => lhs; whnf); done)) | exact rfl))))); exact h52 _ _ rfl)
 | (apply s_lenSl; exact rfl)
 | (apply s_slcT; exact rfl; exact rfl; omega)
 | (apply c_seq)
 | (apply c_reg)
 | (apply c_block)
 | (with_reducible apply k_c)
        generalize hT : topR a.rank (l.drop q) 0 = T
        refine c_loop ?_
        refine loop_gc (σ := Nat × Int) (fun s => [.ptr 0 0, .sl 1 1 0 l.length, .int .i64 q, .int .i64 s.2, .sl 1 1 q (l.length - q), .int .i64 ((l.length - q : Nat) : Int), .int .i64 s.1]) (fun _ => [some (.box [xo, xr, xn]), some (.data (iL l))])
          (fun s => s.1 ≤ l.length - q ∧ topR a.rank (l.drop (q + s.1)) s.2 = T) (fun s => l.length - q - s.1) ?_ _ (0, 0) _ _ ⟨by simp, hT⟩ (by simp; omega) (by simp [go_sem, fo, fr, fn]; done)
        intro ⟨i, top⟩ ⟨hi, htp⟩ K hK
        simp only at hi htp hK ⊢
        have hu := hmem (q + ((i : Int)).toNat)
        repeat' first
 | (apply s_mov; (focus ((conv => lhs; whnf); done)))
 | (apply c_nil)
 | ((first | apply s_lss | apply s_leq | apply s_gtr | apply s_geq | apply s_eql | apply s_neq); exact rfl; all_goals (intro _; try (exfalso; omega)))
 | ((first | apply s_add | apply s_sub); exact rfl; omega)
 | (apply s_idxSO; exact rfl; exact rfl; omega)
 | (apply s_ldSO; exact rfl; exact rfl; rw [iL_len] at *; omega)
 | (apply s_idx; (focus ((conv => lhs; whnf); done)); exact rfl; (first | assumption | (apply IsLL.at; assumption; omega)); omega)
 | (apply s_mx; exact rfl; exact rfl)
 | (apply s_ldI; exact rfl; omega)
 | (apply s_pd; (focus ((conv => lhs; whnf); done)))
 | (apply c_seq)
 | (apply c_reg)
 | (apply c_block)
 | (apply c_exitH)
 | (apply c_skip)
 | (apply c_condT; exact rfl)
 | (apply c_condF; exact rfl)
 | (with_reducible apply k_c)
        · refine hK (i + 1, if getI a.rank (getI l ((q + ((i : Int)).toNat : Nat) : Int)) > top then getI a.rank (getI l ((q + ((i : Int)).toNat : Nat) : Int)) else top) _ _ ⟨by simp; omega, ?_⟩ (by simp; omega) (by simp [go_sem, fo, fr, fn]; done)
          rw [← htp, drop_getI (i := q + i) (by omega)]
          simp only [topR, Int.toNat_natCast, Nat.add_assoc]
        · obtain rfl : i = l.length - q := by omega
          rw [show q + (l.length - q) = l.length by omega, List.drop_length] at htp
          simp only [topR] at htp
          subst htp
          clear hK hu
          refine c_pre (vs := [.sl 0 1 0 l.length, .int .i64 q, .int .i64 top]) (H' := [some (.data (iL l))]) (by simp [go_sem, fo, fr, fn]; done) ?_
          have k1 := fun hm => c53s (m := m) (H := [some (.data (iL l))]) (id := 0) (off := 0) (n := q) (l := l) (r := l.take q) rfl (by omega) (by simp) (by omega) hm
          have k2 := fun hm => c53s (m := m) (H := [some (.data (iL l))]) (id := 0) (off := 0 + q) (n := l.length - q) (l := l) (r := l.drop q) rfl (by omega) (by rw [Nat.zero_add]; exact hcl.symm) (by omega) hm
          repeat' first
 | (apply s_mov; (focus ((conv => lhs; whnf); done)))
 | (apply c_nil)
 | (apply s_cn; (focus (repeat (first | apply opds_nil | (apply opds_cons; (first | (focus ((conv => lhs; whnf); done)) | exact rfl))))); exact k1 (by omega))
 | (apply s_cn; (focus (repeat (first | apply opds_nil | (apply opds_cons; (first | (focus ((conv => lhs; whnf); done)) | exact rfl))))); exact k2 (by omega))
 | (apply s_slcT; exact rfl; exact rfl; omega)
 | (apply s_slcF; exact rfl; exact rfl; omega)
 | (apply s_rem2; exact rfl)
 | (apply c_seq)
 | (apply c_reg)
 | (apply c_ret)
 | (with_reducible apply k_c)
          exact fin_4 rfl rfl rfl rfl rfl rfl rfl rfl rfl
      · rename_i hnv
        rw [if_neg hnv] at hwk
        refine hK (k, c :: cs ++ [v], getI pl v) _ _ ⟨hws hnv, hwk, ?_⟩ (by simp) ?_
        · have := hcs hnv; simp only; omega
        · simp only [List.cons_append, wayH, wayV]
          rw [← List.cons_append, ← iL_app1]
          exact (by simp [go_sem, fo, fr, fn, ft]; done)
  · have := cf_le (mk n [])
    rw [mk_len] at this
    simp only
    omega
end Go.AM.Pa
