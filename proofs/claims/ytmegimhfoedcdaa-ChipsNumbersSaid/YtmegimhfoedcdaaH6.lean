/- A part of the proof: E12 E9 U66 E13 U56 H6. -/
import Derived.Test.YtmegimhfoedcdaaP17
import Derived.Test.YtmegimhfoedcdaaE8
import Derived.Test.YtmegimhfoedcdaaU42
import Derived.Test.YtmegimhfoedcdaaU16
import Derived.Test.YtmegimhfoedcdaaD2
import Derived.Test.YtmegimhfoedcdaaE3
import Derived.Test.YtmegimhfoedcdaaU36
import Derived.Test.YtmegimhfoedcdaaU45
import Derived.Test.YtmegimhfoedcdaaH5
import Derived.Test.YtmegimhfoedcdaaU14
set_option linter.unusedVariables false
set_option linter.unusedSimpArgs false
set_option linter.unusedSectionVars false
namespace Go.AM.Ch
set_option maxHeartbeats 8000000
theorem zero_of {x : AV} {b : List (List Int)} {l : List Int} {o : Nat} (hx : IsLL x b) (hB : IsB b) (hl : RZ b l) (ho : ∀ k : Int, Eq0 b (fun v => k * gf l v) ↔ (o : Int) ∣ k) {k : Nat} (hk1 : 1 ≤ k) (hk2 : k < 2 ^ 47) {m : Nat} (hm : smK + 2 ≤ m) :
    ∃ z : AV, (∀ H, callPure (evF tab it m) true 93 [x, .rd 1 b.length (iL l), .int .i64 (k : Int)] H = some (z, H)) ∧ ∀ H, callPure (evF tab it m) true 92 [z] H = some (.bool (decide (o ∣ k)), H) := by
  have hK := smK_big
  have hn2 := hB.n2
  obtain ⟨out, l', ht, hf⟩ := f93 (m := m) hx hB hl hk1 hk2 hm
  refine ⟨.rd 1 b.length (iL out), fun H => callPure_free (by simp [idFreeL, AV.idFree, hx.free]) (by simp) hf rfl, fun H => ?_⟩
  rw [c92 (rd_isL ht.ro.len) (by rw [ht.ro.len]; omega) (by omega) H]
  have e : (∀ v ∈ out, v = 0) ↔ o ∣ k := by
    rw [ht.ro.zero_iff hB, ht.fin, ho]
    exact Int.natCast_dvd_natCast
  simp only [e]
theorem L64 {m N : Nat} {K0 : KT} {X : Nat → KT} {Rt : KT} {res : R} {env : Env} {H : Heap} {x : AV} {b : List (List Int)} {l : List Int} {o n0 q rest0 : Nat}
    (hN : 100 ≤ N) (hm : smK + 2 ≤ m) (hx : IsLL x b) (hB : IsB b) (hl : RZ b l) (ho1 : 1 ≤ o) (ho : ∀ k : Int, Eq0 b (fun v => k * gf l v) ↔ (o : Int) ∣ k)
    (hP : Pd o n0 q rest0) (hq : q ≤ 101559956668416) (hn : 1 ≤ n0 ∧ n0 ≤ 101559956668416) (hr : rest0 ≤ 101559956668416)
    (h0 : gc 0 (looks env [0, 1, 2, 7, 8]) H = some ([x, .rd 1 b.length (iL l), .int .i64 (n0 : Int), .int .i64 (q : Int), .int .i64 (rest0 : Int)], []))
    (hK : ∀ n rest : Nat, Pd o n q rest → ¬ q ∣ rest → rest ∣ rest0 → (1 ≤ n ∧ n ≤ 101559956668416) → rest ≤ 101559956668416 → ∀ env' H', gc 0 (looks env' [0, 1, 2, 7, 8]) H' = some ([x, .rd 1 b.length (iL l), .int .i64 (n : Int), .int .i64 (q : Int), .int .i64 (rest : Int)], []) → K0 env' H' = res) :
    loopIt N (fun K => evC (evF tab it m) it N lb64_4 0 K (blkX 2 K0 X) Rt) env H = res := by
  have fx := hx.free
  refine loop_gc (σ := Nat × Nat × Nat) (fun s => [x, .rd 1 b.length (iL l), .int .i64 (s.1 : Int), .int .i64 (q : Int), .int .i64 (s.2.1 : Int)]) (fun s => []) (fun s => Pd o s.1 q s.2.1 ∧ s.2.1 ∣ rest0 ∧ (1 ≤ s.1 ∧ s.1 ≤ 101559956668416) ∧ s.2.1 ≤ 101559956668416 ∧ s.2.1 < 2 ^ s.2.2) (fun s => s.2.2) ?_ _ (n0, rest0, 47) _ _ ⟨hP, Nat.dvd_refl _, hn, hr, by show rest0 < 2 ^ 47; omega⟩ (by show 47 < _; omega) h0
  clear h0 hP hn hr
  intro ⟨n, rest, g⟩ ⟨hP, hd, hn, hr, hg⟩ K hKl
  dsimp only at hP hd hn hr hg hKl ⊢
  have q2 := hP.q2
  have r1 := hP.r1
  have hK1 := fun n rest => hKl (n, rest, g - 1)
  dsimp only at hK1
  have hK2 := hK n rest hP
  clear hKl hK
  by_cases hdv : rest % q = 0
  · have hdv' : q ∣ rest := Nat.dvd_of_mod_eq_zero hdv
    obtain ⟨d1, d2⟩ := hP.down ho1 hdv'
    have hg1 : 1 ≤ g := by
      rcases Nat.eq_zero_or_pos g with e | e
      · subst e; simp at hg; omega
      · exact e
    have hlt : rest / q < 2 ^ (g - 1) := by
      have h1 : rest / q ≤ rest / 2 := Nat.div_le_div_left q2 (by omega)
      have h2 : 2 ^ g = 2 * 2 ^ (g - 1) := by rw [← Nat.pow_succ']; congr 1; omega
      omega
    have hle : rest / q ≤ 101559956668416 := Nat.le_trans (Nat.div_le_self _ _) hr
    have hdd : rest / q ∣ rest0 := Nat.dvd_trans ⟨q, by rw [Nat.mul_comm]; exact (Nat.mul_div_cancel' hdv').symm⟩ hd
    have hnq : n / q ≤ 101559956668416 := Nat.le_trans (Nat.div_le_self _ _) hn.2
    by_cases hnv : n % q = 0
    · have hnv' : q ∣ n := Nat.dvd_of_mod_eq_zero hnv
      have hnq1 : 1 ≤ n / q := (Nat.one_le_div_iff (by omega)).2 (Nat.le_of_dvd (by omega) hnv')
      obtain ⟨z, e93, e92⟩ := zero_of hx hB hl ho hnq1 (by omega) (m := m) (by omega)
      by_cases hz : o ∣ n / q
      · rw [decide_eq_true hz] at e92
        have hPn := d1 hnv' hz
        have hK3 := hK1 (n / q) (rest / q)
        clear d1 d2 hK1 hK2 ho
        generalize evF tab it m = call at *
        repeat' first
 | (apply s_mov; exact aW)
 | (apply s_gT; exact rfl)
 | (apply c_nil)
 | (apply s_pickT; exact rfl; exact aW)
 | (apply s_eql; exact rfl; all_goals (intro _; try (exfalso; omega)))
 | (apply s_cn; exact aO; exact e93 _)
 | (apply s_cn; exact aO; exact e92 _)
 | (apply s_quoN; exact rfl; omega; omega)
 | (apply s_remN; exact rfl; omega)
 | (apply c_seq)
 | (apply c_reg)
 | (apply c_block)
 | (apply c_skip)
 | (apply c_condT; exact rfl)
 | (with_reducible apply k_c)
        all_goals first
          | (exfalso; omega)
          | (refine hK3 _ _ ⟨hPn, hdd, ⟨hnq1, hnq⟩, hle, hlt⟩ (by omega) ?_
             exact gc_to rfl (by simp [idFreeL, AV.idFree, fx]))
      · rw [decide_eq_false hz] at e92
        have hPn := d2 fun h => hz h.2
        have hK3 := hK1 n (rest / q)
        clear d1 d2 hK1 hK2 ho
        generalize evF tab it m = call at *
        repeat' first
 | (apply s_mov; exact aW)
 | (apply s_gT; exact rfl)
 | (apply c_nil)
 | (apply s_pickT; exact rfl; exact aW)
 | (apply s_eql; exact rfl; all_goals (intro _; try (exfalso; omega)))
 | (apply s_cn; exact aO; exact e93 _)
 | (apply s_cn; exact aO; exact e92 _)
 | (apply s_quoN; exact rfl; omega; omega)
 | (apply s_remN; exact rfl; omega)
 | (apply c_seq)
 | (apply c_reg)
 | (apply c_block)
 | (apply c_skip)
 | (apply c_condT; exact rfl)
 | (apply c_condF; exact rfl)
 | (with_reducible apply k_c)
        all_goals first
          | (exfalso; omega)
          | (refine hK3 _ _ ⟨hPn, hdd, hn, hle, hlt⟩ (by omega) ?_
             exact gc_to rfl (by simp [idFreeL, AV.idFree, fx]))
    · have hPn := d2 fun h => hnv (Nat.mod_eq_zero_of_dvd h.1)
      have hK3 := hK1 n (rest / q)
      clear d1 d2 hK1 hK2 ho
      generalize evF tab it m = call at *
      repeat' first
 | (apply s_mov; exact aW)
 | (apply s_gF; exact rfl)
 | (apply s_gFD; exact rfl)
 | (apply c_nil)
 | (apply s_pickF; exact rfl; exact aW)
 | (apply s_eql; exact rfl; all_goals (intro _; try (exfalso; omega)))
 | (apply s_quoN; exact rfl; omega; omega)
 | (apply s_remN; exact rfl; omega)
 | (apply c_seq)
 | (apply c_reg)
 | (apply c_block)
 | (apply c_skip)
 | (apply c_condT; exact rfl)
 | (apply c_condF; exact rfl)
 | (with_reducible apply k_c)
      all_goals first
        | (exfalso; omega)
        | (refine hK3 _ _ ⟨hPn, hdd, hn, hle, hlt⟩ (by omega) ?_
           exact gc_to rfl (by simp [idFreeL, AV.idFree, fx]))
  · have hK3 := hK2 (fun h => hdv (Nat.mod_eq_zero_of_dvd h)) hd hn hr
    clear hK1 hK2 ho
    generalize evF tab it m = call at *
    repeat' first
 | (apply s_mov; exact aW)
 | (apply c_nil)
 | (apply s_eql; exact rfl; all_goals (intro _; try (exfalso; omega)))
 | (apply s_remN; exact rfl; omega)
 | (apply c_seq)
 | (apply c_reg)
 | (apply c_exitH)
 | (apply c_condF; exact rfl)
 | (with_reducible apply k_c)
    all_goals first
      | (exfalso; omega)
      | (refine hK3 _ _ ?_
         exact gc_to rfl (by simp [idFreeL, AV.idFree, fx]))
theorem f64 {x : AV} {b : List (List Int)} {l : List Int} {o N : Nat} (hx : IsLL x b) (hB : IsB b) (hl : RZ b l) (ho1 : 1 ≤ o) (ho : ∀ k : Int, Eq0 b (fun v => k * gf l v) ↔ (o : Int) ∣ k)
    (hN : 1 ≤ N ∧ N ≤ 101559956668416) (hoN : o ∣ N) {m : Nat} (hm : smK + 3 ≤ m) (hm2 : 10100000 ≤ m) :
    evF tab it m 64 [x, .rd 1 b.length (iL l), .int .i64 (N : Int)] [] = some (.int .i64 (o : Int), []) := by
  obtain ⟨m, rfl⟩ : ∃ j, m = j + 1 := ⟨m - 1, by omega⟩
  have fx := hx.free
  have hL := fun (K0 : KT) (X : Nat → KT) (Rt : KT) (res : R) (env : Env) (H : Heap) (n q rest : Nat) => L64 (N := m) (m := m) (K0 := K0) (X := X) (Rt := Rt) (res := res) (env := env) (H := H) (n0 := n) (q := q) (rest0 := rest) (by omega) (by omega) hx hB hl ho1 ho
  have hP0 : Pd o N 2 N := by
    obtain ⟨t, ht⟩ := hoN
    exact ⟨⟨t, ht, ⟨o, by rw [ht, Nat.mul_comm]⟩⟩, hN.1, by omega, fun d h1 h2 => by omega⟩
  refine f_enter rfl rfl ?_
  generalize evF tab it m = call at *
  repeat' first
 | (apply s_mov; exact aW)
 | (apply c_nil)
 | (apply c_seq)
 | (apply c_reg)
 | (apply c_block)
 | (with_reducible apply k_c)
  refine c_loop ?_
  refine loop_gc (σ := Nat × Nat × Nat) (fun s => [x, .rd 1 b.length (iL l), .int .i64 (s.1 : Int), .int .i64 (s.2.1 : Int), .int .i64 (s.2.2 : Int)]) (fun s => []) (fun s => Pd o s.1 s.2.1 s.2.2 ∧ (1 ≤ s.1 ∧ s.1 ≤ 101559956668416) ∧ s.2.2 ≤ 101559956668416 ∧ (1 < s.2.2 → s.2.1 ≤ 10077697)) (fun s => if s.2.2 ≤ 1 then 0 else 10077700 - s.2.1) ?_ _ (N, 2, N) _ _ ⟨hP0, hN, hN.2, fun _ => by dsimp only; omega⟩ (by show (if N ≤ 1 then 0 else 10077700 - 2) < _; split <;> omega) (gc_to rfl (by simp [idFreeL, AV.idFree, fx]))
  clear hP0
  intro ⟨n, q, rest⟩ ⟨hP, hn, hr, hq⟩ K hKl
  dsimp only at hP hn hr hq hKl ⊢
  have q2 := hP.q2
  have r1 := hP.r1
  by_cases h1 : 1 < rest
  · have hq' := hq h1
    have hqq : q * q ≤ 101559976823809 := Nat.le_trans (Nat.mul_le_mul hq' hq') (by omega)
    have hK1 := fun n q rest => hKl (n, q, rest)
    dsimp only at hK1
    rw [if_neg (by omega)] at hK1
    clear hKl
    by_cases hj : rest < q * q
    · have hPj := hP.jump h1 hj
      have hLj := fun K0 X Rt res env H => hL K0 X Rt res env H n rest rest hPj hr hn hr
      clear hL
      repeat' first
 | (apply s_mov; exact aW)
 | (apply c_nil)
 | (apply s_gtr; exact rfl; all_goals (intro _; try (exfalso; omega)))
 | (apply s_mulN; exact rfl; omega)
 | (apply c_seq)
 | (apply c_reg)
 | (apply c_block)
 | (apply c_skip)
 | (apply c_condT; exact rfl)
 | (with_reducible apply k_c)
      all_goals try (exfalso; omega)
      refine c_loop ?_
      refine hLj _ _ _ _ _ _ (gc_to rfl (by simp [idFreeL, AV.idFree, fx])) ?_
      intro n' rest' hP' hnd hdd hn' hr' env' H' hgc
      have e1 : rest' = 1 := by
        have h2 := hP'.nd
        have h3 := Nat.le_of_dvd (by omega) hdd
        have h4 := hP'.r1
        apply Classical.byContradiction
        intro hne
        rcases Nat.lt_or_ge rest' rest with c | c
        · exact hPj.nd rest' (by omega) c hdd
        · have : rest' = rest := by omega
          exact hnd (this ▸ Nat.dvd_refl _)
      have hPn := hP'.next hnd
      refine k_c (c_pre hgc ?_)
      repeat' first
 | (apply s_mov; exact aW)
 | (apply c_nil)
 | (apply s_add; exact rfl; omega)
 | (apply c_reg)
      refine hK1 n' (rest + 1) rest' _ _ ⟨hPn, hn', hr', fun h => by omega⟩ (by rw [if_pos (by omega)]; omega) ?_
      exact gc_to rfl (by simp [idFreeL, AV.idFree, fx])
    · have hq3 : q ≤ 10077696 := by
        apply Classical.byContradiction
        intro hc
        have : q = 10077697 := by omega
        subst this
        omega
      have hLj := fun K0 X Rt res env H => hL K0 X Rt res env H n q rest hP (by omega) hn hr
      clear hL
      repeat' first
 | (apply s_mov; exact aW)
 | (apply c_nil)
 | (apply s_gtr; exact rfl; all_goals (intro _; try (exfalso; omega)))
 | (apply s_mulN; exact rfl; omega)
 | (apply c_seq)
 | (apply c_reg)
 | (apply c_block)
 | (apply c_skip)
 | (apply c_condT; exact rfl)
 | (apply c_condF; exact rfl)
 | (with_reducible apply k_c)
      all_goals try (exfalso; omega)
      refine c_loop ?_
      refine hLj _ _ _ _ _ _ (gc_to rfl (by simp [idFreeL, AV.idFree, fx])) ?_
      intro n' rest' hP' hnd hdd hn' hr' env' H' hgc
      have hPn := hP'.next hnd
      refine k_c (c_pre hgc ?_)
      repeat' first
 | (apply s_mov; exact aW)
 | (apply c_nil)
 | (apply s_add; exact rfl; omega)
 | (apply c_reg)
      refine hK1 n' (q + 1) rest' _ _ ⟨hPn, hn', hr', fun h => by omega⟩ (by split <;> omega) ?_
      exact gc_to rfl (by simp [idFreeL, AV.idFree, fx])
  · obtain rfl : rest = 1 := by omega
    have hno := hP.done
    subst hno
    clear hKl hL ho
    repeat' first
 | (apply s_mov; exact aW)
 | (apply c_nil)
 | (apply s_gtr; exact rfl; all_goals (intro _; try (exfalso; omega)))
 | (apply c_seq)
 | (apply c_reg)
 | (apply c_exitH)
 | (apply c_ret)
 | (apply c_condF; exact rfl)
 | (apply c_preF; exact aK; exact aF)
 | (with_reducible apply k_c)
    all_goals try (exfalso; omega)
    exact fin_t (by (conv => lhs; whnf)) (by rfl) rfl
attribute [local go_sem] gc subHeap reach_skip ren_free reach_new reach_newp reach_end rangeL roots boxCells nodupB posOf renL AV.ren pickO renH renO looks look bindEnv envOf reach_int reach_bool reach_nilS reach_rd putRow cells_sl cells_int cells_bool cells_nilS cells_rd cells_agg reach_agg reach_tup idFreeL idf_sl idf_ptr idf_int idf_bool idf_nilS idf_rd reach_fn reach_mp cells_fn cells_ptr cells_mp idf_mp idf_fn idf_agg idf_tup
set_option maxHeartbeats 8000000
theorem f29 {x : AV} {b : List (List Int)} (hx : IsLL x b) (hl : b.length < 100) {m : Nat} (hm : 2200 ≤ m) :
    evF tab it m 29 [x] [] = some (.tup [.int .i64 (if IsB b then trN b else 0), .int .i64 (if IsB b then 0 else 2)], []) := by
  obtain ⟨m, rfl⟩ : ∃ j, m = j + 1 := ⟨m - 1, by omega⟩
  have fx := hx.free
  have e60 := fun H => c60 hx hl (m := m) (by omega) H
  by_cases hB : IsB b
  · rw [decide_eq_true hB] at e60
    rw [if_pos hB, if_pos hB]
    have e61a := fun H => callPure_free (H := H) (call := evF tab it m) (f := 61) (args := [x, .int .i64 2147483647]) (by simp [idFreeL, AV.idFree, fx]) (by simp) (f61 hx hB (p := 2147483647) (by omega) nd1 (m := m) (by omega)) rfl
    have e61b := fun H => callPure_free (H := H) (call := evF tab it m) (f := 61) (args := [x, .int .i64 2147483629]) (by simp [idFreeL, AV.idFree, fx]) (by simp) (f61 hx hB (p := 2147483629) (by omega) nd2 (m := m) (by omega)) rfl
    have ht := trN_le hB
    have hcr := crt2 (N := trN b) (by omega) (by omega)
    have iP : IsL (.rd 1 2 (iL [2147483647, 2147483629])) [2147483647, 2147483629] := rd_isL rfl
    have iR : IsL (.rd 1 2 (iL [trN b % 2147483647, trN b % 2147483629])) [trN b % 2147483647, trN b % 2147483629] := rd_isL rfl
    have e62 : callPure (evF tab it m) true 62 [.sl 0 1 0 2, .rd 1 2 (iL [2147483647, 2147483629])] [some (.data (iL [trN b % 2147483647, trN b % 2147483629]))] = some (.tup [.int .i64 (trN b), .int .i64 4611685975477714963, .int .i64 0], [some (.data (iL [trN b % 2147483647, trN b % 2147483629]))]) := by
      have f := f62 iR iP (m := m) (by omega)
      rw [hcr] at f
      exact callPure_own (frzL_cons (frz_sl rfl rfl) (frzL_cons rfl frzL_nil)) f rfl (by simp) rfl
    have bl2 : ∀ call H, evE call H (.bldS true true 1 2 [.int .i64 0] [(0, 1), (1, 1)]) [.int .i64 2147483647, .int .i64 2147483629] = some (.rd 1 2 (iL [2147483647, 2147483629]), H) := fun call H => rfl
    have bl1 : ∀ call H (a : Int), evE call H (.bldS true true 1 1 [.int .i64 0] [(0, 1)]) [.int .i64 a] = some (.rd 1 1 (iL [a]), H) := fun call H a => rfl
    have ap0 : ∀ call (a : Int), evE call [] (.app false 1 8) [.nilS, .rd 1 1 (iL [a])] = some (.sl 0 1 0 1, [some (.data (iL [a]))]) := fun call a => e_app_nil rfl (by omega) (by decide)
    have ap1 : ∀ call (c a : Int), evE call [some (.data (iL [c]))] (.app false 1 8) [.sl 0 1 0 1, .rd 1 1 (iL [a])] = some (.sl 1 1 0 2, [none, some (.data (iL [c, a]))]) := fun call c a => e_app_sl (q := 8) (id := 0) (H := [some (.data (iL [c]))]) (cs := iL [c]) (bs := iL [a]) (n := 1) (k := 1) rfl rfl (by omega) (by decide)
    have hr1 := trN b % 2147483647
    refine f_enter rfl rfl ?_
    generalize trN b % 2147483647 = r1 at *
    generalize trN b % 2147483629 = r2 at *
    generalize trN b = T at *
    generalize evF tab it m = call at *
    repeat' first
 | (apply s_mov; exact aW)
 | (apply c_nil)
 | (apply s_notT; exact rfl)
 | (apply s_cn; exact aO; exact e60 _)
 | (apply s_en; exact aO; exact bl2 _ _)
 | (apply s_len; exact aW; exact aI)
 | (apply c_seq)
 | (apply c_reg)
 | (apply c_block)
 | (apply c_skip)
 | (apply c_condF; exact rfl)
 | (with_reducible apply k_c)
    all_goals try (exfalso; omega)
    refine c_loop ?_
    refine loop_gc (σ := Nat) (fun k => [x, .rd 1 2 (iL [2147483647, 2147483629]), if k = 0 then .nilS else .sl 0 1 0 k, .rd 1 2 (iL [2147483647, 2147483629]), .int .i64 2, .int .i64 (k : Int)]) (fun k => if k = 0 then [] else if k = 1 then [some (.data (iL [r1]))] else [some (.data (iL [r1, r2]))]) (fun k => k ≤ 2) (fun k => 2 - k) ?_ _ 0 _ _ (by omega) (by omega) (by rw [if_pos rfl, if_pos rfl]; exact gc_to rfl (by simp [idFreeL, AV.idFree, fx]))
    intro k hk K hK
    rcases (by omega : k = 0 ∨ k = 1 ∨ k = 2) with rfl | rfl | rfl
    · have hK1 := hK 1
      simp only [if_true, if_false, show ¬ (1 : Nat) = 0 by omega] at hK1 ⊢
      clear hK
      have l0 : ∀ H, evP H (.ld false 1) [.rp (iL [2147483647, 2147483629])] = some (.int .i64 2147483647) := fun H => rfl
      have i0 : ∀ H, evP H (.idxA 1) [.rd 1 2 (iL [2147483647, 2147483629]), .int .i64 ((0 : Nat) : Int)] = some (.rp (iL [2147483647, 2147483629])) := fun H => rfl
      repeat' first
 | (apply s_mov; exact aW)
 | (apply c_nil)
 | (apply s_lss; exact rfl; all_goals (intro _; try (exfalso; omega)))
 | (apply s_add; exact rfl; omega)
 | (apply s_pn; exact aO; exact i0 _)
 | (apply s_pn; exact aO; exact l0 _)
 | (apply s_cn; exact aO; exact e61a _)
 | (apply s_en; exact aO; exact bl1 _ _ _)
 | (apply s_en; exact aO; exact ap0 _ _)
 | (apply c_seq)
 | (apply c_reg)
 | (apply c_block)
 | (apply c_skip)
 | (apply c_condT; exact rfl)
 | (with_reducible apply k_c)
      all_goals try (exfalso; omega)
      refine hK1 _ _ (by omega) (by omega) ?_
      exact (by simp [go_sem, fx, iL]; done)
    · have hK1 := hK 2
      simp only [if_true, if_false, show ¬ (1 : Nat) = 0 by omega, show ¬ (2 : Nat) = 0 by omega, show ¬ (2 : Nat) = 1 by omega] at hK1 ⊢
      clear hK
      have l0 : ∀ H, evP H (.ld false 1) [.rp (iL [2147483629])] = some (.int .i64 2147483629) := fun H => rfl
      have i0 : ∀ H, evP H (.idxA 1) [.rd 1 2 (iL [2147483647, 2147483629]), .int .i64 ((1 : Nat) : Int)] = some (.rp (iL [2147483629])) := fun H => rfl
      repeat' first
 | (apply s_mov; exact aW)
 | (apply c_nil)
 | (apply s_lss; exact rfl; all_goals (intro _; try (exfalso; omega)))
 | (apply s_add; exact rfl; omega)
 | (apply s_pn; exact aO; exact i0 _)
 | (apply s_pn; exact aO; exact l0 _)
 | (apply s_cn; exact aO; exact e61b _)
 | (apply s_en; exact aO; exact bl1 _ _ _)
 | (apply s_en; exact aO; exact ap1 _ _ _)
 | (apply c_seq)
 | (apply c_reg)
 | (apply c_block)
 | (apply c_skip)
 | (apply c_condT; exact rfl)
 | (with_reducible apply k_c)
      all_goals try (exfalso; omega)
      refine hK1 _ _ (by omega) (by omega) ?_
      exact (by simp [go_sem, fx, iL]; done)
    · simp only [if_false, show ¬ (2 : Nat) = 0 by omega, show ¬ (2 : Nat) = 1 by omega]
      clear hK
      repeat' first
 | (apply c_nil)
 | (apply s_lss; exact rfl; all_goals (intro _; try (exfalso; omega)))
 | (apply c_seq)
 | (apply c_reg)
 | (apply c_exitH)
 | (apply c_condF; exact rfl)
 | (with_reducible apply k_c)
      all_goals try (exfalso; omega)
      refine c_pre (vs := [.rd 1 2 (iL [2147483647, 2147483629]), .sl 0 1 0 2]) (H' := [some (.data (iL [r1, r2]))]) (by simp [go_sem, iL]; done) ?_
      repeat' first
 | (apply s_mov; exact aW)
 | (apply c_nil)
 | (apply s_cn; exact aO; exact e62)
 | (apply s_pd; exact aW)
 | (apply c_seq)
 | (apply c_reg)
 | (apply c_ret)
 | (with_reducible apply k_c)
      exact fin_tt (by (conv => lhs; whnf)) (by (conv => lhs; whnf)) (by rfl) (by rfl) rfl
  · rw [decide_eq_false hB] at e60
    rw [if_neg hB, if_neg hB]
    refine f_enter rfl rfl ?_
    generalize evF tab it m = call at *
    repeat' first
 | (apply s_mov; exact aW)
 | (apply c_nil)
 | (apply s_notF; exact rfl)
 | (apply s_cn; exact aO; exact e60 _)
 | (apply c_seq)
 | (apply c_reg)
 | (apply c_ret)
 | (apply c_condT; exact rfl)
 | (with_reducible apply k_c)
    exact fin_tt (by (conv => lhs; whnf)) (by (conv => lhs; whnf)) (by rfl) (by rfl) rfl
theorem c29 {x : AV} {b : List (List Int)} (hx : IsLL x b) (hl : b.length < 100) {m : Nat} (hm : 2200 ≤ m) (H : Heap) :
    callPure (evF tab it m) true 29 [x] H = some (.tup [.int .i64 (if IsB b then trN b else 0), .int .i64 (if IsB b then 0 else 2)], H) :=
  callPure_free (by simp [idFreeL, hx.free]) (by simp) (f29 hx hl hm) rfl
set_option maxHeartbeats 8000000
theorem f63 {x : AV} {l : List Int} (hx : IsL x l) (hl : l.length ≤ 1000) (hb : ∀ j : Nat, j < l.length → -1099511627776 ≤ getI l (j : Int) ∧ getI l (j : Int) ≤ 1099511627776) {m : Nat} (hm : 1010 ≤ m) : evF tab it m 63 [x] [] = some (.int .i64 (sumTo (gf l) l.length), []) := by
  obtain ⟨m, rfl⟩ : ∃ j, m = j + 1 := ⟨m - 1, by omega⟩
  have fx := hx.free
  have lx : ∀ H, evP H .len [x] = some (.int .i64 ((l.length : Nat) : Int)) := fun H => p_lenI hx
  refine f_enter rfl rfl ?_
  generalize evF tab it m = call at *
  repeat' first
 | (apply s_mov; exact aW)
 | (apply c_nil)
 | (apply s_pn; exact aO; exact lx _)
 | (apply c_seq)
 | (apply c_reg)
 | (apply c_block)
 | (with_reducible apply k_c)
  refine c_loop ?_
  refine loop_gc (σ := Nat) (fun i => [.int .i64 (sumTo (fun j => getI l (j : Int)) i), x, .int .i64 ((l.length : Nat) : Int), .int .i64 (i : Int)]) (fun _ => []) (fun i => i ≤ l.length) (fun i => l.length - i) ?_ _ 0 _ _ (by omega) (by omega) (gc_to rfl (by simp [idFreeL, AV.idFree, *]; done))
  intro i hi K hK
  have hbd := sumTo_le (f := fun j => getI l (j : Int)) (M := 1099511627776) (n := i) fun j hj => hb j (by omega)
  by_cases hil : i < l.length
  · have hgi := hb i hil
    repeat' first
 | (apply s_mov; exact aW)
 | (apply c_nil)
 | (apply s_lss; exact rfl; all_goals (intro _; try (exfalso; omega)))
 | (apply s_add; exact rfl; omega)
 | (apply s_idx; exact aW; exact rfl; exact aI; omega)
 | (apply s_ldI; exact rfl; omega)
 | (apply c_seq)
 | (apply c_reg)
 | (apply c_block)
 | (apply c_skip)
 | (apply c_condT; exact rfl)
 | (with_reducible apply k_c)
    all_goals exact hK (i + 1) _ _ (by omega) (by omega) (gc_to rfl (by simp [idFreeL, AV.idFree, *]; done))
  · obtain rfl : i = l.length := by omega
    repeat' first
 | (apply s_mov; exact aW)
 | (apply c_nil)
 | (apply s_lss; exact rfl; all_goals (intro _; try (exfalso; omega)))
 | (apply c_seq)
 | (apply c_reg)
 | (apply c_exitH)
 | (apply c_ret)
 | (apply c_condF; exact rfl)
 | (apply c_preF; exact aK; exact aF)
 | (with_reducible apply k_c)
    exact fin_t (v := .int .i64 (sumTo (gf l) l.length)) (by rfl) (by rfl) rfl
theorem c63 {x : AV} {l : List Int} (hx : IsL x l) (hl : l.length ≤ 1000) (hb : ∀ j : Nat, j < l.length → -1099511627776 ≤ getI l (j : Int) ∧ getI l (j : Int) ≤ 1099511627776) {m : Nat} (hm : 1010 ≤ m) (H : Heap) : callPure (evF tab it m) true 63 [x] H = some (.int .i64 (sumTo (gf l) l.length), H) :=
  callPure_free (by simp [idFreeL, hx.free]) (by simp) (f63 hx hl hb hm) rfl
set_option maxHeartbeats 8000000
theorem f30 {x y : AV} {b : List (List Int)} {s : List Int} (hx : IsLL x b) (hy : IsL y s) (hl : b.length < 100) (hs : s.length ≤ 1000) {m : Nat} (hm : smK + 30 ≤ m) (hm2 : 10200000 ≤ m) :
    evF tab it m 30 [x, y] [] = some (.tup (if IsB b ∧ InR b.length 1048576 s then (if sumTo (gf s) b.length = 0 then [.int .i64 (ordS b s : Int), .int .i64 0] else [.int .i64 0, .int .i64 6]) else [.int .i64 0, .int .i64 2]), []) := by
  obtain ⟨m, rfl⟩ : ∃ j, m = j + 1 := ⟨m - 1, by omega⟩
  have hK := smK_big
  have fx := hx.free; have fy := hy.free
  have e52 := fun H => c52 hx hy hl hs (m := m) (by omega) H
  by_cases hBI : IsB b ∧ InR b.length 1048576 s
  · obtain ⟨hB, hI⟩ := hBI
    have hBI : IsB b ∧ InR b.length 1048576 s := ⟨hB, hI⟩
    rw [if_pos hBI] at e52 ⊢
    have hn1 := hB.n1
    have hsl := hI.1
    have hsv := fun v hv => inR_get hI v hv
    have e63 := fun H => c63 hy hs (fun j hj => by have := hsv j (by omega); omega) (m := m) (by omega) H
    rw [hsl] at e63
    by_cases h0 : sumTo (gf s) b.length = 0
    · rw [if_pos h0]
      rw [h0] at e63
      have e29 := fun H => c29 hx hl (m := m) (by omega) H
      rw [if_pos hB, if_pos hB] at e29
      have e54 := fun H => c54 (q := 0) hx hy hB hI hn1 (m := m) (by omega) H
      have hTl := (redT_ok hB s hn1).1
      have hT := redT_le hB hn1 (M := 1048576) (by omega) (l := s) fun v hv h0 => by have := hsv v hv; omega
      have e55 := fun H => c55 hx hy (rd_isL hTl) hB.bd hsl hTl (fun v hv => by have := hT v hv; omega) (fun v hv => by have := hsv v hv; omega) (m := m) (by omega) H
      rw [apl_len] at e55
      have er : apl b s (redT b s 0) = redL b s 0 := rfl
      rw [er] at e55
      have ht := trN_le hB
      obtain ⟨o1, o2⟩ := ordS_spec hB h0
      have hoN : ordS b s ∣ (trN b).toNat := by
        have := ordS_tr hB h0
        rw [← Int.toNat_of_nonneg (show 0 ≤ trN b by omega)] at this
        exact Int.natCast_dvd_natCast.1 this
      have f := f64 (m := m) (o := ordS b s) (N := (trN b).toNat) hx hB (rz_of hB h0) o1 (ordS_red hB h0) ⟨by omega, by omega⟩ hoN (by omega) (by omega)
      rw [Int.toNat_of_nonneg (show 0 ≤ trN b by omega)] at f
      have e64 := fun H => callPure_free (H := H) (by simp [idFreeL, AV.idFree, fx]) (by simp) f rfl
      clear f o2 hoN hT hsv
      refine f_enter rfl rfl ?_
      generalize evF tab it m = call at *
      generalize trN b = T at *
      generalize ordS b s = O at *
      repeat' first
 | (apply s_mov; exact aW)
 | (apply c_nil)
 | (apply s_neq; exact rfl; all_goals (intro _; try (exfalso; omega)))
 | (apply s_cn; exact aO; exact e52 _)
 | (apply s_cn; exact aO; exact e63 _)
 | (apply s_cn; exact aO; exact e29 _)
 | (apply s_cn; exact aO; exact e54 _)
 | (apply s_cn; exact aO; exact e55 _)
 | (apply s_cn; exact aO; exact e64 _)
 | (apply s_pd; exact aW)
 | (apply c_seq)
 | (apply c_reg)
 | (apply c_skip)
 | (apply c_ret)
 | (apply c_condF; exact rfl)
 | (with_reducible apply k_c)
      all_goals first
        | (exfalso; omega)
        | exact fin_tt (by (conv => lhs; whnf)) (by (conv => lhs; whnf)) (by rfl) (by rfl) rfl
    · rw [if_neg h0]
      refine f_enter rfl rfl ?_
      generalize evF tab it m = call at *
      generalize sumTo (gf s) b.length = S at *
      repeat' first
 | (apply s_mov; exact aW)
 | (apply c_nil)
 | (apply s_neq; exact rfl; all_goals (intro _; try (exfalso; omega)))
 | (apply s_cn; exact aO; exact e52 _)
 | (apply s_cn; exact aO; exact e63 _)
 | (apply c_seq)
 | (apply c_reg)
 | (apply c_skip)
 | (apply c_ret)
 | (apply c_condT; exact rfl)
 | (apply c_condF; exact rfl)
 | (with_reducible apply k_c)
      all_goals first
        | (exfalso; omega)
        | exact fin_tt (by (conv => lhs; whnf)) (by (conv => lhs; whnf)) (by rfl) (by rfl) rfl
  · rw [if_neg hBI] at e52 ⊢
    refine f_enter rfl rfl ?_
    generalize evF tab it m = call at *
    repeat' first
 | (apply s_mov; exact aW)
 | (apply c_nil)
 | (apply s_neq; exact rfl; all_goals (intro _; try (exfalso; omega)))
 | (apply s_cn; exact aO; exact e52 _)
 | (apply c_seq)
 | (apply c_reg)
 | (apply c_ret)
 | (apply c_condT; exact rfl)
 | (with_reducible apply k_c)
    all_goals first
      | (exfalso; omega)
      | exact fin_tt (by (conv => lhs; whnf)) (by (conv => lhs; whnf)) (by rfl) (by rfl) rfl
theorem c30 {x y : AV} {b : List (List Int)} {s : List Int} (hx : IsLL x b) (hy : IsL y s) (hl : b.length < 100) (hs : s.length ≤ 1000) {m : Nat} (hm : smK + 30 ≤ m) (hm2 : 10200000 ≤ m) (H : Heap) :
    callPure (evF tab it m) true 30 [x, y] H = some (.tup (if IsB b ∧ InR b.length 1048576 s then (if sumTo (gf s) b.length = 0 then [.int .i64 (ordS b s : Int), .int .i64 0] else [.int .i64 0, .int .i64 6]) else [.int .i64 0, .int .i64 2]), H) :=
  callPure_free (by simp [idFreeL, hx.free, hy.free]) (by simp) (f30 hx hy hl hs hm hm2) (by split <;> (try split) <;> rfl)
theorem ty_rowsB {k : Nat} {cs : List AV} (h : TyAV T k 22 cs) : ∃ x l, cs = [x] ∧ IsLL x l ∧ l.length < 2 ^ 63 := by
  cases k with
  | zero => exact h.elim
  | succ k =>
    obtain ⟨s, hs, hm⟩ := h
    rw [T22] at hs; cases hs
    rcases hm with rfl | ⟨len, cells, se, h1, rfl, h3, h5, h4⟩
    · exact ⟨_, [], rfl, .nil, by simp⟩
    · rw [T23] at h1; cases h1
      simp only [Nat.mul_one] at h3 h4
      have key : ∀ (cs : List AV), (∀ i, i < cs.length → ∃ l, IsL (cs.getD i .undef) l) → ∃ ll : List (List Int), cs.length = ll.length ∧ ∀ i, i < ll.length → IsL (cs.getD i .undef) (ll.getD i []) := by
        intro cs
        induction cs with
        | nil => intro _; exact ⟨[], rfl, fun i hi => by simp at hi⟩
        | cons c cs ih =>
          intro h
          obtain ⟨l, hl⟩ := h 0 (by simp)
          obtain ⟨ll, h1, h2⟩ := ih fun i hi => by simpa using h (i + 1) (by simpa using hi)
          refine ⟨l :: ll, by simp [h1], fun i hi => ?_⟩
          cases i with
          | zero => simpa using hl
          | succ i => simpa using h2 i (by simpa using hi)
      obtain ⟨ll, e1, e2⟩ := key cells fun i hi => by
        obtain ⟨x, l, hx, hl⟩ := ty_ints (h4 i (by omega))
        rw [take1 hi] at hx
        simp only [List.cons.injEq, and_true] at hx
        exact ⟨l, by rw [hx]; exact hl⟩
      have e3 : len = ll.length := by omega
      subst e3
      exact ⟨_, ll, rfl, .rd cells ll e1 e2, h5⟩
theorem arg_rowsB {k : Nat} {x : AV} (h : TyArg T k 22 x) : ∃ l, IsLL x l ∧ l.length < 9223372036854775808 := by
  rcases h with ⟨s, xs, hs, ha, _⟩ | ⟨s, hs, ha, h⟩
  · rw [T22] at hs; cases hs; cases ha
  · obtain ⟨y, l, hy, hl, hb⟩ := ty_rowsB h
    simp only [List.cons.injEq, and_true] at hy
    exact ⟨l, by rw [hy]; exact hl, hb⟩
set_option maxHeartbeats 8000000
theorem f4 {x y : AV} {b : List (List Int)} {s : List Int} (hx : IsLL x b) (hy : IsL y s) : ∃ m H', evF tab it m 4 [x, y] [] = some (.bool true, H') := by
  obtain ⟨M, hM1, hM2⟩ : ∃ M, smK + 40 ≤ M ∧ 10300000 ≤ M := ⟨smK + 10300000, by omega, by omega⟩
  refine ⟨M + 1, [], ?_⟩
  have h25 := fun H => awakeN (m := M) (by omega) H
  have fx := hx.free; have fy := hy.free
  have a1 := fun H => c18 hx (m := M) (by omega) H
  have a2 := fun H => c19 hy (m := M) (by omega) H
  have b1 := fun H => c18 (isLL_fz (b12 b)) (m := M) (by omega) H
  have b2 := fun H => c19 (isL_fz (s.take 12)) (m := M) (by omega) H
  rw [b12_idem] at b1
  simp only [List.take_take, Nat.min_self] at b2
  have lb : (b12 b).length ≤ 12 := by simp [b12]; omega
  have lb2 : ∀ l ∈ b12 b, l.length < 100 := fun l hl => by
    obtain ⟨r, _, rfl⟩ := List.mem_map.1 hl
    simp; omega
  have ls : (s.take 12).length ≤ 12 := by simp; omega
  generalize b12 b = B at *
  generalize s.take 12 = S at *
  have iB := isLL_fz B; have iS := isL_fz S
  have e21 := fun H => c21 iB iB ⟨by omega, lb2⟩ (m := M) (by omega) H
  have e22s := fun H => c22 iS iS (by omega) (m := M) (by omega) H
  have e23 := fun H => c23 iB (by omega) (m := M) (by omega) H
  have e24 := fun H => c24 iB iS (by omega) (m := M) (by omega) H
  have e29 := fun H => c29 iB (by omega) (m := M) (by omega) H
  have e30 := fun H => c30 iB iS (by omega) (by omega) (m := M) (by omega) (by omega) H
  simp only [decide_true] at e21 e22s
  have fB := iB.free; have fS := iS.free
  by_cases h1 : IsB B
  · have e31 := fun H => c31 iB h1 (m := M) (by omega) H
    rw [if_pos h1, if_pos h1] at e29
    rw [decide_eq_true h1] at e23
    by_cases h2 : InR B.length 1048576 S
    · rw [if_pos ⟨h1, h2⟩] at e30
      rw [decide_eq_true h2] at e24
      have e32 := fun H => c32 iS (by omega) (fun v hv => by
        obtain ⟨k, hk, e⟩ := List.getElem_of_mem hv
        have := inR_get h2 k (by rw [← h2.1]; exact hk)
        rw [getI_nat] at this
        have h3 : S.getD k 0 = v := by simp [List.getD, hk, e]
        rw [h3] at this
        omega) (m := M) (by omega) H
      have hsum : sumI S = sumTo (gf S) B.length := by unfold sumI; rw [h2.1]; rfl
      rw [hsum] at e32
      by_cases h0 : sumTo (gf S) B.length = 0
      · rw [if_pos h0] at e30
        rw [h0] at e32
        have e33 := fun H => callPure_free (H := H) (by simp [idFreeL, AV.idFree, fB, fS]) (by simp) (f33 iB iS h1 h2 h0 (m := M) (by omega) (by omega)) rfl
        refine f_enter rfl rfl ?_
        generalize evF tab it M = call at *
        generalize ordS B S = o at *
        generalize trN B = T at *
        generalize fzLL B = vB at *
        generalize fzL S = vS at *
        repeat' first
 | (apply s_mov; exact aW)
 | (apply s_gT; exact rfl)
 | (apply c_nil)
 | (apply s_pickT; exact rfl; exact aW)
 | (apply s_pickF; exact rfl; exact aW)
 | (apply s_notT; exact rfl)
 | (apply s_eql; exact rfl; all_goals (intro _; try (exfalso; omega)))
 | (apply s_neq; exact rfl; all_goals (intro _; try (exfalso; omega)))
 | (apply s_cn; exact aO; exact a1 _)
 | (apply s_cn; exact aO; exact a2 _)
 | (apply s_cn; exact aO; exact b1 _)
 | (apply s_cn; exact aO; exact b2 _)
 | (apply s_cn; exact aO; exact e29 _)
 | (apply s_cn; exact aO; exact e30 _)
 | (apply s_cn; exact aO; exact e31 _)
 | (apply s_cn; exact aO; exact e32 _)
 | (apply s_cn; exact aO; exact e33 _)
 | (apply s_cn; exact aO; exact e21 _)
 | (apply s_cn; exact aO; exact e22s _)
 | (apply s_cn; exact aO; exact e23 _)
 | (apply s_cn; exact aO; exact e24 _)
 | (apply s_cn; exact aO; exact h25 _)
 | (apply s_pd; exact aW)
 | (apply c_seq)
 | (apply c_reg)
 | (apply c_skip)
 | (apply c_ret)
 | (apply c_condF; exact rfl)
 | (with_reducible apply k_c)
        all_goals first | (exfalso; omega) | exact fin_t (by (conv => lhs; whnf)) (by rfl) rfl
      · rw [if_neg h0] at e30
        refine f_enter rfl rfl ?_
        generalize evF tab it M = call at *
        generalize sumTo (gf S) B.length = Sm at *
        generalize trN B = T at *
        generalize fzLL B = vB at *
        generalize fzL S = vS at *
        repeat' first
 | (apply s_mov; exact aW)
 | (apply s_gT; exact rfl)
 | (apply c_nil)
 | (apply s_pickT; exact rfl; exact aW)
 | (apply s_pickF; exact rfl; exact aW)
 | (apply s_notT; exact rfl)
 | (apply s_eql; exact rfl; all_goals (intro _; try (exfalso; omega)))
 | (apply s_neq; exact rfl; all_goals (intro _; try (exfalso; omega)))
 | (apply s_cn; exact aO; exact a1 _)
 | (apply s_cn; exact aO; exact a2 _)
 | (apply s_cn; exact aO; exact b1 _)
 | (apply s_cn; exact aO; exact b2 _)
 | (apply s_cn; exact aO; exact e29 _)
 | (apply s_cn; exact aO; exact e30 _)
 | (apply s_cn; exact aO; exact e31 _)
 | (apply s_cn; exact aO; exact e32 _)
 | (apply s_cn; exact aO; exact e21 _)
 | (apply s_cn; exact aO; exact e22s _)
 | (apply s_cn; exact aO; exact e23 _)
 | (apply s_cn; exact aO; exact e24 _)
 | (apply s_cn; exact aO; exact h25 _)
 | (apply s_pd; exact aW)
 | (apply c_seq)
 | (apply c_reg)
 | (apply c_skip)
 | (apply c_ret)
 | (apply c_condT; exact rfl)
 | (apply c_condF; exact rfl)
 | (with_reducible apply k_c)
        all_goals first | (exfalso; omega) | exact fin_t (by (conv => lhs; whnf)) (by rfl) rfl
    · rw [if_neg (fun h => h2 h.2)] at e30
      rw [decide_eq_false h2] at e24
      refine f_enter rfl rfl ?_
      generalize evF tab it M = call at *
      generalize trN B = T at *
      generalize fzLL B = vB at *
      generalize fzL S = vS at *
      repeat' first
 | (apply s_mov; exact aW)
 | (apply s_gT; exact rfl)
 | (apply c_nil)
 | (apply s_pickT; exact rfl; exact aW)
 | (apply s_pickF; exact rfl; exact aW)
 | (apply s_notT; exact rfl)
 | (apply s_notF; exact rfl)
 | (apply s_eql; exact rfl; all_goals (intro _; try (exfalso; omega)))
 | (apply s_neq; exact rfl; all_goals (intro _; try (exfalso; omega)))
 | (apply s_cn; exact aO; exact a1 _)
 | (apply s_cn; exact aO; exact a2 _)
 | (apply s_cn; exact aO; exact b1 _)
 | (apply s_cn; exact aO; exact b2 _)
 | (apply s_cn; exact aO; exact e29 _)
 | (apply s_cn; exact aO; exact e30 _)
 | (apply s_cn; exact aO; exact e31 _)
 | (apply s_cn; exact aO; exact e21 _)
 | (apply s_cn; exact aO; exact e22s _)
 | (apply s_cn; exact aO; exact e23 _)
 | (apply s_cn; exact aO; exact e24 _)
 | (apply s_cn; exact aO; exact h25 _)
 | (apply s_pd; exact aW)
 | (apply c_seq)
 | (apply c_reg)
 | (apply c_skip)
 | (apply c_ret)
 | (apply c_condT; exact rfl)
 | (apply c_condF; exact rfl)
 | (with_reducible apply k_c)
      all_goals first | (exfalso; omega) | exact fin_t (by (conv => lhs; whnf)) (by rfl) rfl
  · rw [if_neg h1, if_neg h1] at e29
    rw [if_neg (fun h => h1 h.1)] at e30
    rw [decide_eq_false h1] at e23
    refine f_enter rfl rfl ?_
    generalize evF tab it M = call at *
    generalize fzLL B = vB at *
    generalize fzL S = vS at *
    repeat' first
 | (apply s_mov; exact aW)
 | (apply s_gT; exact rfl)
 | (apply c_nil)
 | (apply s_pickT; exact rfl; exact aW)
 | (apply s_pickF; exact rfl; exact aW)
 | (apply s_notT; exact rfl)
 | (apply s_notF; exact rfl)
 | (apply s_eql; exact rfl; all_goals (intro _; try (exfalso; omega)))
 | (apply s_cn; exact aO; exact a1 _)
 | (apply s_cn; exact aO; exact a2 _)
 | (apply s_cn; exact aO; exact b1 _)
 | (apply s_cn; exact aO; exact b2 _)
 | (apply s_cn; exact aO; exact e29 _)
 | (apply s_cn; exact aO; exact e30 _)
 | (apply s_cn; exact aO; exact e21 _)
 | (apply s_cn; exact aO; exact e22s _)
 | (apply s_cn; exact aO; exact e23 _)
 | (apply s_cn; exact aO; exact h25 _)
 | (apply s_pd; exact aW)
 | (apply c_seq)
 | (apply c_reg)
 | (apply c_skip)
 | (apply c_ret)
 | (apply c_condT; exact rfl)
 | (apply c_condF; exact rfl)
 | (with_reducible apply k_c)
    all_goals first | (exfalso; omega) | exact fin_t (by (conv => lhs; whnf)) (by rfl) rfl
end Go.AM.Ch
