/- A part of the proof: G1 U41 U63 E10 E11 P16 P17. -/
import Derived.Test.YtmegimhfoedcdaaE8
import Derived.Test.YtmegimhfoedcdaaD2
import Derived.Test.YtmegimhfoedcdaaE3
import Derived.Test.YtmegimhfoedcdaaM3
import Derived.Test.YtmegimhfoedcdaaP3
set_option linter.unusedVariables false
set_option linter.unusedSimpArgs false
set_option linter.unusedSectionVars false
namespace Go.AM.Ch
set_option maxHeartbeats 4000000
def Eq0 (b : List (List Int)) (f : Nat → Int) : Prop := ∃ T : Nat → Int, ∀ v, v < b.length → f v = net b.length (ed b) T v
theorem Eq0.congr {b : List (List Int)} {f g : Nat → Int} (h : Eq0 b f) (e : ∀ v, v < b.length → f v = g v) : Eq0 b g := by
  obtain ⟨T, hT⟩ := h
  exact ⟨T, fun v hv => by rw [← e v hv]; exact hT v hv⟩
theorem Eq0.add {b : List (List Int)} {f g : Nat → Int} (h : Eq0 b f) (h' : Eq0 b g) : Eq0 b (fun v => f v + g v) := by
  obtain ⟨T, hT⟩ := h
  obtain ⟨U, hU⟩ := h'
  exact ⟨fun j => T j + U j, fun v hv => by dsimp only; rw [net_add, hT v hv, hU v hv]⟩
theorem Eq0.mul {b : List (List Int)} {f : Nat → Int} (k : Int) (h : Eq0 b f) : Eq0 b (fun v => k * f v) := by
  obtain ⟨T, hT⟩ := h
  exact ⟨fun j => k * T j, fun v hv => by dsimp only; rw [net_mul, hT v hv]⟩
theorem Eq0.zero (b : List (List Int)) : Eq0 b (fun _ => 0) := ⟨fun _ => 0, fun v _ => (net_const _ _ _ _).symm⟩
theorem Eq0.sub {b : List (List Int)} {f g : Nat → Int} (h : Eq0 b f) (h' : Eq0 b g) : Eq0 b (fun v => f v - g v) := by
  refine (h.add (h'.mul (-1))).congr fun v _ => ?_
  omega
theorem zer_iff {b : List (List Int)} (hB : IsB b) (l : List Int) : (∀ v, v < b.length → gf (redL b l 0) v = 0) ↔ Eq0 b (gf l) := by
  have g := gr_of hB
  have hn := hB.n1
  have hap : ∀ v, v < b.length → gf (redL b l 0) v = ap b.length (ed b) (gf l) (gf (redT b l 0)) v := fun v hv => apl_ap hB _ _ hv
  constructor
  · intro h
    refine ⟨gf (redT b l 0), fun v hv => ?_⟩
    have h1 := h v hv
    rw [hap v hv] at h1
    unfold ap at h1
    omega
  · rintro ⟨T, hT⟩ v hv
    refine (red_uniq g hn (red_zero hB) (t := fun j => gf (redT b l 0) j + - T j) (redL_red hB l hn) (fun v hv => ?_) v hv).1
    rw [hap v hv]
    unfold ap
    rw [net_add, net_neg, hT v hv]
    dsimp only
    omega
structure RZ (b : List (List Int)) (l : List Int) : Prop where
  len : l.length = b.length
  red : Red b.length (ed b) 0 (gf l)
  sum : sumTo (gf l) b.length = 0
theorem redL_sum {b : List (List Int)} (hB : IsB b) (l : List Int) : sumTo (gf (redL b l 0)) b.length = sumTo (gf l) b.length := by
  rw [← ap_sum (gr_of hB) (gf l) (gf (redT b l 0))]
  exact sumTo_congr fun v hv => apl_ap hB _ _ hv
theorem rz_of {b : List (List Int)} (hB : IsB b) {l : List Int} (h : sumTo (gf l) b.length = 0) : RZ b (redL b l 0) := ⟨redL_len _ _ _, redL_red hB l hB.n1, by rw [redL_sum hB, h]⟩
theorem redL_eq0 {b : List (List Int)} (hB : IsB b) (l : List Int) : Eq0 b (fun v => gf l v - gf (redL b l 0) v) := ⟨gf (redT b l 0), fun v hv => by
  have e : gf (redL b l 0) v = ap b.length (ed b) (gf l) (gf (redT b l 0)) v := apl_ap hB _ _ hv
  dsimp only
  rw [e]
  unfold ap
  omega⟩
theorem RZ.val {b : List (List Int)} (hB : IsB b) {l : List Int} (h : RZ b l) : (∀ v : Nat, v < b.length → v ≠ 0 → 0 ≤ getI l (v : Int) ∧ getI l (v : Int) ≤ 35) ∧ -400 ≤ getI l ((0 : Nat) : Int) ∧ getI l ((0 : Nat) : Int) ≤ 0 := by
  have hn1 := hB.n1; have hn2 := hB.n2
  have h1 : ∀ v : Nat, v < b.length → v ≠ 0 → 0 ≤ gf l v ∧ gf l v ≤ 35 := fun v hv h0 => by
    have a := h.red.1 v hv h0
    have c := red_lt (gr_of hB) h.red hv h0
    omega
  refine ⟨h1, ?_⟩
  have hs := h.sum
  rw [show b.length = b.length - 1 + 1 by omega, sumTo_front'] at hs
  have hb := sumTo_nn (f := fun j => gf l (j + 1)) (n := b.length - 1) fun j hj => (h1 (j + 1) (by omega) (by omega)).1
  have hc := sumTo_mono (f := fun j => gf l (j + 1)) (g := fun _ => 35) (n := b.length - 1) fun j hj => (h1 (j + 1) (by omega) (by omega)).2
  have hd : ∀ n : Nat, sumTo (fun _ => (35 : Int)) n = n * 35 := fun n => by
    induction n with
    | zero => rfl
    | succ n ih => show sumTo (fun _ => (35 : Int)) n + 35 = _; rw [ih]; push_cast; omega
  rw [hd] at hc
  show -400 ≤ gf l 0 ∧ gf l 0 ≤ 0
  omega
theorem ord_ex {b : List (List Int)} (hB : IsB b) {s : List Int} (hs : sumTo (gf s) b.length = 0) : ∃ o : Nat, 1 ≤ o ∧ ∀ k : Int, Eq0 b (fun v => k * gf s v) ↔ (o : Int) ∣ k := by
  have ht := trN_le hB
  have hk : Eq0 b (fun v => trN b * gf s v) := trN_kill hB hs
  have hex : ∃ n : Nat, 1 ≤ n ∧ Eq0 b (fun v => (n : Int) * gf s v) := ⟨(trN b).toNat, by omega, by rw [Int.toNat_of_nonneg (by omega)]; exact hk⟩
  have hmin : ∀ n : Nat, (1 ≤ n ∧ Eq0 b (fun v => (n : Int) * gf s v)) → ∃ o : Nat, (1 ≤ o ∧ Eq0 b (fun v => (o : Int) * gf s v)) ∧ ∀ r : Nat, r < o → ¬ (1 ≤ r ∧ Eq0 b (fun v => (r : Int) * gf s v)) := fun n => by
    induction n using Nat.strongRecOn with
    | _ n ih =>
      intro hn
      by_cases h : ∃ r, r < n ∧ (1 ≤ r ∧ Eq0 b (fun v => (r : Int) * gf s v))
      · obtain ⟨r, h1, h2⟩ := h
        exact ih r h1 h2
      · exact ⟨n, hn, fun r hr h2 => h ⟨r, hr, h2⟩⟩
  obtain ⟨n, hn⟩ := hex
  obtain ⟨o, ⟨o1, o2⟩, o3⟩ := hmin n hn
  refine ⟨o, o1, fun k => ⟨fun h => ?_, fun ⟨z, hz⟩ => ?_⟩⟩
  · have h1 : Eq0 b (fun v => (k % (o : Int)) * gf s v) := by
      refine (h.sub (o2.mul (k / (o : Int)))).congr fun v _ => ?_
      have e := Int.mul_ediv_add_emod k (o : Int)
      have e2 : k % (o : Int) = k - (k / (o : Int)) * (o : Int) := by rw [Int.mul_comm (k / (o : Int))]; omega
      rw [e2, Int.sub_mul, Int.mul_assoc]
    have h2 := Int.emod_nonneg k (show (o : Int) ≠ 0 by omega)
    have h3 := Int.emod_lt_of_pos k (show (0 : Int) < o by omega)
    have h4 := o3 (k % (o : Int)).toNat (by omega)
    rw [Int.toNat_of_nonneg h2] at h4
    apply Int.dvd_of_emod_eq_zero
    apply Classical.byContradiction
    intro hne
    exact h4 ⟨by omega, h1⟩
  · refine (o2.mul z).congr fun v _ => ?_
    rw [hz, ← Int.mul_assoc, Int.mul_comm z]
noncomputable def ordS (b : List (List Int)) (s : List Int) : Nat := open Classical in if h : ∃ o : Nat, 1 ≤ o ∧ ∀ k : Int, Eq0 b (fun v => k * gf s v) ↔ (o : Int) ∣ k then Classical.choose h else 0
theorem ordS_spec {b : List (List Int)} (hB : IsB b) {s : List Int} (hs : sumTo (gf s) b.length = 0) : 1 ≤ ordS b s ∧ ∀ k : Int, Eq0 b (fun v => k * gf s v) ↔ (ordS b s : Int) ∣ k := by
  have h := ord_ex hB hs
  unfold ordS
  rw [dif_pos h]
  exact Classical.choose_spec h
theorem ordS_tr {b : List (List Int)} (hB : IsB b) {s : List Int} (hs : sumTo (gf s) b.length = 0) : (ordS b s : Int) ∣ trN b := ((ordS_spec hB hs).2 _).1 (trN_kill hB hs)
theorem ordS_red {b : List (List Int)} (hB : IsB b) {s : List Int} (hs : sumTo (gf s) b.length = 0) (k : Int) : Eq0 b (fun v => k * gf (redL b s 0) v) ↔ (ordS b s : Int) ∣ k := by
  rw [← (ordS_spec hB hs).2 k]
  have h := (redL_eq0 hB s).mul k
  constructor
  · intro h2
    refine (h.add h2).congr fun v _ => ?_
    show k * (gf s v - gf (redL b s 0) v) + k * gf (redL b s 0) v = _
    rw [Int.mul_sub]; omega
  · intro h2
    refine (h2.sub h).congr fun v _ => ?_
    show k * gf s v - k * (gf s v - gf (redL b s 0) v) = _
    rw [Int.mul_sub]; omega
structure Pd (o n q rest : Nat) : Prop where
  t : ∃ t, n = o * t ∧ t ∣ rest
  r1 : 1 ≤ rest
  q2 : 2 ≤ q
  nd : ∀ d, 2 ≤ d → d < q → ¬ d ∣ rest
theorem Pd.jump {o n q rest : Nat} (h : Pd o n q rest) (hr : 1 < rest) (hq : rest < q * q) : Pd o n rest rest := by
  refine ⟨h.t, h.r1, by omega, fun d h1 h2 h3 => ?_⟩
  obtain ⟨e, he⟩ := h3
  have a := h.nd d
  have c := h.nd e
  have hd : q ≤ d := Nat.le_of_not_lt fun hl => a h1 hl ⟨e, he⟩
  have he2 : 2 ≤ e := by
    rcases (by omega : e = 0 ∨ e = 1 ∨ 2 ≤ e) with rfl | rfl | h
    · omega
    · omega
    · exact h
  have hee : q ≤ e := Nat.le_of_not_lt fun hl => c he2 hl ⟨d, by rw [Nat.mul_comm]; exact he⟩
  have := Nat.mul_le_mul hd hee
  omega
theorem Pd.down {o n q rest : Nat} (h : Pd o n q rest) (ho1 : 1 ≤ o) (hq : q ∣ rest) : (q ∣ n → o ∣ n / q → Pd o (n / q) q (rest / q)) ∧ (¬ (q ∣ n ∧ o ∣ n / q) → Pd o n q (rest / q)) := by
  obtain ⟨r, hr⟩ := hq
  have q2 := h.q2
  have hrq : rest / q = r := by rw [hr]; exact Nat.mul_div_cancel_left r (by omega)
  have hr1 : 1 ≤ r := by
    have := h.r1
    rcases Nat.eq_zero_or_pos r with e | e
    · rw [e] at hr; omega
    · exact e
  have hnd : ∀ d, 2 ≤ d → d < q → ¬ d ∣ r := fun d h1 h2 h3 => h.nd d h1 h2 (by rw [hr]; exact Nat.dvd_trans h3 ⟨q, Nat.mul_comm _ _⟩)
  obtain ⟨t, ht, htr⟩ := h.t
  rw [hrq]
  constructor
  · rintro ⟨a, ha⟩ ho
    have e : n / q = a := by rw [ha]; exact Nat.mul_div_cancel_left a (by omega)
    rw [e] at ho ⊢
    obtain ⟨c, hc⟩ := ho
    refine ⟨⟨c, hc, ?_⟩, hr1, q2, hnd⟩
    have e1 : o * t = o * (q * c) := by rw [← ht, ha, hc, Nat.mul_left_comm]
    have e2 : t = q * c := Nat.eq_of_mul_eq_mul_left (by omega) e1
    obtain ⟨w, hw⟩ := htr
    rw [e2, hr, Nat.mul_assoc] at hw
    exact ⟨w, Nat.eq_of_mul_eq_mul_left (by omega) hw⟩
  · intro hno
    refine ⟨⟨t, ht, ?_⟩, hr1, q2, hnd⟩
    have hqt : ¬ q ∣ t := fun ⟨c, hc⟩ => hno ⟨⟨o * c, by rw [ht, hc, Nat.mul_left_comm]⟩, by
      have : n / q = o * c := by rw [ht, hc, Nat.mul_left_comm]; exact Nat.mul_div_cancel_left _ (by omega)
      rw [this]; exact ⟨c, rfl⟩⟩
    have hg : Nat.gcd t q = 1 := by
      apply Classical.byContradiction
      intro hg
      have g1 : Nat.gcd t q ∣ q := Nat.gcd_dvd_right _ _
      have g2 : Nat.gcd t q ∣ t := Nat.gcd_dvd_left _ _
      have g3 : 0 < Nat.gcd t q := Nat.gcd_pos_of_pos_right _ (by omega)
      have g4 := Nat.le_of_dvd (by omega) g1
      rcases Nat.lt_or_ge (Nat.gcd t q) q with c | c
      · exact h.nd _ (by omega) c (Nat.dvd_trans g2 htr)
      · have : Nat.gcd t q = q := by omega
        rw [this] at g2
        exact hqt g2
    rw [hr] at htr
    exact Nat.Coprime.dvd_of_dvd_mul_left hg htr
theorem Pd.next {o n q rest : Nat} (h : Pd o n q rest) (hq : ¬ q ∣ rest) : Pd o n (q + 1) rest := ⟨h.t, h.r1, by have := h.q2; omega, fun d h1 h2 h3 => by
  rcases Nat.lt_or_ge d q with c | c
  · exact h.nd d h1 c h3
  · have : d = q := by omega
    exact hq (this ▸ h3)⟩
theorem Pd.done {o n q : Nat} (h : Pd o n q 1) : n = o := by
  obtain ⟨t, ht, h1⟩ := h.t
  have : t = 1 := Nat.dvd_one.1 h1
  rw [ht, this, Nat.mul_one]
attribute [local go_sem] gc subHeap reach_skip ren_free reach_new reach_newp reach_end rangeL roots boxCells nodupB posOf renL AV.ren pickO renH renO looks look bindEnv envOf reach_int reach_bool reach_nilS reach_rd putRow cells_sl cells_int cells_bool cells_nilS cells_rd cells_agg reach_agg reach_tup idFreeL idf_sl idf_ptr idf_int idf_bool idf_nilS idf_rd reach_fn reach_mp cells_fn cells_ptr cells_mp idf_mp idf_fn idf_agg idf_tup
set_option maxHeartbeats 8000000
theorem c54 {x y : AV} {b : List (List Int)} {s : List Int} {q : Nat} (hx : IsLL x b) (hy : IsL y s) (hB : IsB b) (hs : InR b.length 1048576 s) (hq : q < b.length) {m : Nat} (hm : smK + 22 ≤ m) (H : Heap) :
    callPure (evF tab it m) true 54 [x, y, .int .i64 (q : Int)] H = some (.rd 1 b.length (iL (redT b s q)), H) := by
  have f := f54 hB hq 21 hx hy hs.1 (fun v hv => by have := inR_get hs v hv; omega) (fun v hv => by
    have := inR_get hs v hv
    have e : (2 : Nat) ^ 21 = 2097152 := by decide
    omega) (m := m) hm
  exact callPure_frz (by simp [idFreeL, AV.idFree, hx.free, hy.free]) (by simp) f (frz_sl rfl (redT_ok hB s hq).1)
set_option maxHeartbeats 8000000
structure Tk (n k : Nat) (l : List Int) : Prop where
  len : l.length = n
  oth : ∀ v : Nat, v < n → v ≠ 0 → -100 + (k : Int) ≤ getI l (v : Int) ∧ getI l (v : Int) ≤ 100
  own : -1125899906842624 + (k : Int) ≤ getI l ((0 : Nat) : Int) ∧ getI l ((0 : Nat) : Int) ≤ 1125899906842624
theorem Tk.near {n : Nat} {l : List Int} (h : Tk n 0 l) : Near n 0 l := ⟨h.len, fun v hv h0 => by have := h.oth v hv h0; omega, by have := h.own; omega⟩
theorem Tk.step {n k : Nat} {l : List Int} (h : Tk n (k + 1) l) {v : Nat} (hv : v < n) : Tk n k (l.set v (getI l (v : Int) - 1)) := by
  have hl := h.len
  refine ⟨by simp [hl], fun u hu h0 => ?_, ?_⟩
  · rw [getI_set (by omega)]
    have := h.oth u hu h0
    split
    · rename_i e; subst e; omega
    · omega
  · rw [getI_set (by omega)]
    have := h.own
    split
    · rename_i e; subst e; omega
    · omega
theorem Tk.all {n k : Nat} {l : List Int} (h : Tk n k l) : ∀ v : Nat, v < n → -1125899906842624 ≤ getI l (v : Int) ∧ getI l (v : Int) ≤ 1125899906842624 := fun v hv => by
  by_cases e : v = 0
  · subst e; have := h.own; omega
  · have := h.oth v hv e; omega
set_option maxHeartbeats 8000000
theorem eqCells_iL : ∀ (n : Nat) (a c : List Int), a.length = n → c.length = n → eqCells (List.replicate n (some .i64)) (iL a) (iL c) = some (decide (a = c))
  | 0, [], [], _, _ => rfl
  | 0, _ :: _, _, h, _ => by simp at h
  | 0, _, _ :: _, _, h => by simp at h
  | n + 1, [], _, h, _ => by simp at h
  | n + 1, _, [], _, h => by simp at h
  | n + 1, x :: a, y :: c, ha, hc => by
    have ih := eqCells_iL n a c (by simpa using ha) (by simpa using hc)
    show eqCells (some .i64 :: List.replicate n (some .i64)) (.int .i64 x :: iL a) (.int .i64 y :: iL c) = _
    simp only [eqCells, and_self, if_true, ih]
    by_cases e : x = y
    · subst e; simp
    · simp [e]
def zz : List Int := List.replicate 10 0
theorem zz_len : zz.length = 10 := by simp [zz]
def z10 (l : List Int) : List Int := l ++ List.replicate (10 - l.length) 0
theorem z10_len {l : List Int} (h : l.length ≤ 10) : (z10 l).length = 10 := by simp [z10]; omega
theorem z10_iff {l : List Int} (h : l.length ≤ 10) : z10 l = zz ↔ ∀ v ∈ l, v = 0 := by
  constructor
  · intro e v hv
    have : v ∈ z10 l := by unfold z10; exact List.mem_append_left _ hv
    rw [e] at this
    unfold zz at this
    exact (List.mem_replicate.1 this).2
  · intro h2
    unfold zz
    rw [List.eq_replicate_iff]
    refine ⟨z10_len h, fun v hv => ?_⟩
    unfold z10 at hv
    rcases List.mem_append.1 hv with hv | hv
    · exact h2 v hv
    · exact (List.mem_replicate.1 hv).2
theorem e_cpyZ {call : CallF} {x : AV} {l : List Int} (hx : IsL x l) (hl : l.length ≤ 10) : evE call [some (.data (iL zz))] (.cpy 1) [.sl 0 1 0 10, x] = some (.int .i64 (l.length : Int), [some (.data (iL (z10 l)))]) := by
  have hz : (iL zz).length = 10 := by rw [iL_len]; exact zz_len
  have hll := iL_len l
  cases hx with
  | nil => rfl
  | rd l =>
    have hm : min l.length 10 = l.length := by omega
    have e : putRow (iL zz) 0 (iL l) = iL (z10 l) := by
      have e2 : (iL zz).drop l.length = iL (List.replicate (10 - l.length) 0) := by unfold iL zz; rw [← List.map_drop, List.drop_replicate]
      unfold putRow z10
      rw [List.take_zero, List.nil_append, Nat.zero_add, hll, e2]
      simp only [iL, List.map_append]
    have h2 : (0 : Nat) + l.length ≤ (iL zz).length := by omega
    have h3 : min (List.length l) 10 = l.length := by omega
    have h5 : (iL l).take l.length = iL l := List.take_of_length_le (by omega)
    have h6 : (iL zz).length = 10 := hz
    have h7 : min (l.length : Int) 10 = l.length := by omega
    simp [evE, szOk, lenOf, rowOf, h3, h6, h7, hl, h5, e]
theorem f92 {x : AV} {l : List Int} (hx : IsL x l) (hl : l.length ≤ 10) {m : Nat} (hm : 2 ≤ m) : evF tab it m 92 [x] [] = some (.bool (decide (∀ v ∈ l, v = 0)), []) := by
  obtain ⟨m, rfl⟩ : ∃ j, m = j + 1 := ⟨m - 1, by omega⟩
  have al : ∀ call, evE call [] (.alloc true [.int .i64 0, .int .i64 0, .int .i64 0, .int .i64 0, .int .i64 0, .int .i64 0, .int .i64 0, .int .i64 0, .int .i64 0, .int .i64 0]) [] = some (.ptr 0 0, [some (.data (iL zz))]) := fun call => rfl
  have sp : evP [some (.data (iL zz))] (.slcP 10 1 false false) [.ptr 0 0] = some (.sl 0 1 0 10) := rfl
  have cp := fun call => e_cpyZ (call := call) hx hl
  have hz := z10_len hl
  have hi := z10_iff hl
  have ld : evP [some (.data (iL (z10 l)))] (.ld true 10) [.ptr 0 0] = some (.agg (iL (z10 l))) := by
    have hc : Heap.cells? [some (HO.data (iL (z10 l)))] 0 = some (iL (z10 l)) := rfl
    have h5 : 0 + 10 ≤ (iL (z10 l)).length := by rw [iL_len, hz]; omega
    have h6 : (iL (z10 l)).take 10 = iL (z10 l) := List.take_of_length_le (by rw [iL_len, hz]; omega)
    simp [evP, ldc, getRow, hc, iL_len, hz, h6, wholeOf]
  have bl : ∀ H, evP H (.bld [.int .i64 0, .int .i64 0, .int .i64 0, .int .i64 0, .int .i64 0, .int .i64 0, .int .i64 0, .int .i64 0, .int .i64 0, .int .i64 0] []) [] = some (.agg (iL zz)) := fun H => rfl
  have eqa : ∀ H, evP H (.eqagg false [some .i64, some .i64, some .i64, some .i64, some .i64, some .i64, some .i64, some .i64, some .i64, some .i64]) [.agg (iL (z10 l)), .agg (iL zz)] = some (.bool (decide (∀ v ∈ l, v = 0))) := fun H => by
    have h1 := eqCells_iL 10 (z10 l) zz hz zz_len
    have h2 : ([some .i64, some .i64, some .i64, some .i64, some .i64, some .i64, some .i64, some .i64, some .i64, some .i64] : List (Option IntKind)) = List.replicate 10 (some .i64) := rfl
    have h3 : (iL (z10 l)).length = 10 := by rw [iL_len, hz]
    rw [h2]
    simp only [evP, h1, Option.map_some, negIf, List.length_replicate, h3, if_true, Bool.false_eq_true, if_false]
    simp [hi]
  generalize decide (∀ v ∈ l, v = 0) = R at *
  generalize z10 l = Z at *
  refine f_enter rfl rfl ?_
  generalize evF tab it m = call at *
  repeat' first
 | (apply s_mov; exact aW)
 | (apply c_nil)
 | (apply s_en; exact aO; exact al _)
 | (apply s_pn; exact aO; exact sp)
 | (apply s_en; exact aO; exact cp _)
 | (apply s_pn; exact aO; exact ld)
 | (apply s_pn; exact aO; exact bl _)
 | (apply s_pn; exact aO; exact eqa _)
 | (apply c_seq)
 | (apply c_reg)
 | (apply c_ret)
 | (with_reducible apply k_c)
  exact fin_t (by (conv => lhs; whnf)) (by rfl) rfl
theorem c92 {x : AV} {l : List Int} (hx : IsL x l) (hl : l.length ≤ 10) {m : Nat} (hm : 2 ≤ m) (H : Heap) : callPure (evF tab it m) true 92 [x] H = some (.bool (decide (∀ v ∈ l, v = 0)), H) :=
  callPure_free (by simp [idFreeL, hx.free]) (by simp) (f92 hx hl hm) rfl
set_option maxHeartbeats 8000000
theorem c77f {args : List AV} {x y : AV} {a c : List Int} (hx : IsL x a) (hy : IsL y c) (h0 : 1 ≤ a.length) (hl : a.length ≤ 12) (hac : c.length = a.length)
    (hb : ∀ v : Nat, v < a.length → -288230376151711744 ≤ getI a (v : Int) ∧ getI a (v : Int) ≤ 288230376151711744) (hc : ∀ v : Nat, v < a.length → -288230376151711744 ≤ getI c (v : Int) ∧ getI c (v : Int) ≤ 288230376151711744)
    {m : Nat} (hm : 101 ≤ m) (H : Heap) (ha : frzL H 40 args = some [x, y]) : callPure (evF tab it m) true 77 args H = some (.rd 1 a.length (iL (pl a c)), H) :=
  callPure_own ha (f77 hx hy h0 hl hac hb hc hm) rfl (by simp [HO.hasRd, iL_noRd]) (frz_sl rfl (pl_len _ _))
theorem RZ.near {b : List (List Int)} (hB : IsB b) {a c : List Int} (ha : RZ b a) (hc : RZ b c) : Near b.length 0 (pl a c) := by
  obtain ⟨a1, a2, a3⟩ := ha.val hB
  obtain ⟨c1, c2, c3⟩ := hc.val hB
  have hal := ha.len
  have hn1 := hB.n1
  refine ⟨by rw [pl_len, hal], fun v hv h0 => ?_, ?_⟩
  · rw [pl_get (by omega)]
    have := a1 v hv h0
    have := c1 v hv h0
    omega
  · rw [pl_get (by omega)]
    omega
theorem RZ.pl_sum {b : List (List Int)} {a c : List Int} (ha : RZ b a) (hc : RZ b c) : sumTo (gf (pl a c)) b.length = 0 := by
  have e : sumTo (gf (pl a c)) b.length = sumTo (fun v => gf a v + gf c v) b.length := sumTo_congr fun v hv => pl_get (by rw [ha.len]; exact hv)
  rw [e, sumTo_add, ha.sum, hc.sum]
  rfl
theorem f111 {x y : AV} {b : List (List Int)} {l : List Int} (hx : IsLL x b) (hy : IsL y l) (hB : IsB b) (hl : Near b.length 0 l) {m : Nat} (hm : smK + 1 ≤ m) :
    evF tab it m 111 [x, y] [] = some (.rd 1 b.length (iL (redL b l 0)), []) := by
  obtain ⟨m, rfl⟩ : ∃ j, m = j + 1 := ⟨m - 1, by omega⟩
  have hK := smK_big
  have fx := hx.free; have fy := hy.free
  have hn1 := hB.n1
  have e81 := fun H => c81 (q := 0) hx hy hB hn1 hl (m := m) (by omega) H
  have hTl := (redT_ok hB l hn1).1
  have hT := redT_le hB hn1 (M := 100) (by omega) (l := l) fun v hv h0 => hl.oth v hv h0
  have hall := hl.all
  have e55 := fun H => c55 hx hy (rd_isL hTl) hB.bd hl.len hTl (fun v hv => by have := hT v hv; omega) (fun v hv => by have := hall v hv; omega) (m := m) (by omega) H
  rw [apl_len] at e55
  have er : apl b l (redT b l 0) = redL b l 0 := rfl
  rw [er] at e55
  refine f_enter rfl rfl ?_
  generalize evF tab it m = call at *
  repeat' first
 | (apply s_mov; exact aW)
 | (apply c_nil)
 | (apply s_cn; exact aO; exact e81 _)
 | (apply s_cn; exact aO; exact e55 _)
 | (apply c_seq)
 | (apply c_reg)
 | (apply c_ret)
 | (with_reducible apply k_c)
  exact fin_t (by (conv => lhs; whnf)) (by rfl) rfl
theorem c111 {x y : AV} {b : List (List Int)} {l : List Int} (hx : IsLL x b) (hy : IsL y l) (hB : IsB b) (hl : Near b.length 0 l) {m : Nat} (hm : smK + 1 ≤ m) (H : Heap) :
    callPure (evF tab it m) true 111 [x, y] H = some (.rd 1 b.length (iL (redL b l 0)), H) :=
  callPure_free (by simp [idFreeL, AV.idFree, hx.free, hy.free]) (by simp) (f111 hx hy hB hl hm) rfl
def zer (n : Nat) : List Int := List.replicate n 0
theorem zer_get (n v : Nat) : gf (zer n) v = 0 := by
  show getI (zer n) (v : Int) = 0
  rw [getI_nat]
  unfold zer
  by_cases h : v < n
  · simp [List.getD, h]
  · simp [List.getD, h]
theorem rz_zer {b : List (List Int)} (hB : IsB b) : RZ b (zer b.length) := by
  have e : gf (zer b.length) = fun _ => 0 := funext fun v => zer_get _ v
  refine ⟨by simp [zer], by rw [e]; exact red_zero hB, by rw [e]; exact sumTo_zero _⟩
structure Tm (b : List (List Int)) (l0 : List Int) (k0 : Nat) (l : List Int) (k : Nat) (out : List Int) : Prop where
  rl : RZ b l
  ro : RZ b out
  e : Eq0 b (fun v => (k0 : Int) * gf l0 v - (gf out v + (k : Int) * gf l v))
theorem Tm.step {b : List (List Int)} (hB : IsB b) {l0 l out : List Int} {k0 k : Nat} (h : Tm b l0 k0 l k out) : Tm b l0 k0 (redL b (pl l l) 0) (k / 2) (if k % 2 = 1 then redL b (pl out l) 0 else out) := by
  have e1 := redL_eq0 hB (pl l l)
  have e2 := redL_eq0 hB (pl out l)
  have hl := h.rl.len
  have ho := h.ro.len
  refine ⟨rz_of hB (h.rl.pl_sum h.rl), ?_, ?_⟩
  · split
    · exact rz_of hB (h.ro.pl_sum h.rl)
    · exact h.ro
  · by_cases hk : k % 2 = 1
    · rw [if_pos hk]
      refine ((h.e.add e2).add (e1.mul ((k / 2 : Nat) : Int))).congr fun v hv => ?_
      have g1 : gf (pl l l) v = gf l v + gf l v := pl_get (by omega)
      have g2 : gf (pl out l) v = gf out v + gf l v := pl_get (by omega)
      rw [g1, g2]
      have ek : (k : Int) = 2 * ((k / 2 : Nat) : Int) + 1 := by omega
      rw [ek]
      generalize ((k / 2 : Nat) : Int) = j
      generalize gf l v = a
      generalize gf (redL b (pl l l) 0) v = c
      rw [Int.mul_sub, Int.mul_add, Int.add_mul, Int.mul_assoc 2 j a]
      omega
    · rw [if_neg hk]
      refine (h.e.add (e1.mul ((k / 2 : Nat) : Int))).congr fun v hv => ?_
      have g1 : gf (pl l l) v = gf l v + gf l v := pl_get (by omega)
      rw [g1]
      have ek : (k : Int) = 2 * ((k / 2 : Nat) : Int) := by omega
      rw [ek]
      generalize ((k / 2 : Nat) : Int) = j
      generalize gf l v = a
      generalize gf (redL b (pl l l) 0) v = c
      rw [Int.mul_sub, Int.mul_add, Int.mul_assoc 2 j a]
      omega
theorem Tm.init {b : List (List Int)} (hB : IsB b) {l : List Int} (h : RZ b l) (k : Nat) : Tm b l k l k (zer b.length) := ⟨h, rz_zer hB, (Eq0.zero b).congr fun v _ => by rw [zer_get]; omega⟩
theorem Tm.fin {b : List (List Int)} {l0 l out : List Int} {k0 : Nat} (h : Tm b l0 k0 l 0 out) : Eq0 b (gf out) ↔ Eq0 b (fun v => (k0 : Int) * gf l0 v) := by
  have he := h.e
  constructor
  · intro h2
    refine (he.add h2).congr fun v _ => ?_
    omega
  · intro h2
    refine (h2.sub he).congr fun v _ => ?_
    omega
theorem RZ.zero_iff {b : List (List Int)} (hB : IsB b) {l : List Int} (h : RZ b l) : (∀ v ∈ l, v = 0) ↔ Eq0 b (gf l) := by
  have hl := h.len
  rw [← zer_iff hB l]
  have hr : ∀ v, v < b.length → gf (redL b l 0) v = gf l v := fun v hv => by
    refine (red_uniq (gr_of hB) hB.n1 h.red (t := gf (redT b l 0)) (redL_red hB l hB.n1) (fun v hv => ?_) v hv).1
    exact apl_ap hB _ _ hv
  constructor
  · intro h1 v hv
    rw [hr v hv]
    show getI l (v : Int) = 0
    rw [getI_nat]
    have hvl : v < l.length := by omega
    simp only [List.getD, List.getElem?_eq_getElem hvl, Option.getD_some]
    exact h1 _ (List.getElem_mem hvl)
  · intro h1 v hv
    obtain ⟨i, hi, rfl⟩ := List.mem_iff_getElem.1 hv
    have := h1 i (by omega)
    rw [hr i (by omega)] at this
    have e : gf l i = l[i] := by
      show getI l (i : Int) = _
      rw [getI_nat]; simp [List.getD, hi]
    rw [← e]; exact this
theorem f93 {x : AV} {b : List (List Int)} {l0 : List Int} {k0 : Nat} (hx : IsLL x b) (hB : IsB b) (h0 : RZ b l0) (hk1 : 1 ≤ k0) (hk2 : k0 < 2 ^ 47) {m : Nat} (hm : smK + 2 ≤ m) :
    ∃ out l, Tm b l0 k0 l 0 out ∧ evF tab it m 93 [x, .rd 1 b.length (iL l0), .int .i64 (k0 : Int)] [] = some (.rd 1 b.length (iL out), []) := by
  obtain ⟨m, rfl⟩ : ∃ j, m = j + 1 := ⟨m - 1, by omega⟩
  have hK := smK_big
  have fx := hx.free
  have hn1 := hB.n1; have hn2 := hB.n2
  have mk := fun call H => @e_mkI call H b.length (by unfold most; omega)
  let F : Nat → List Int × Nat × List Int := fun i => Nat.rec (l0, k0, zer b.length) (fun _ s => (redL b (pl s.1 s.1) 0, s.2.1 / 2, if s.2.1 % 2 = 1 then redL b (pl s.2.2 s.1) 0 else s.2.2)) i
  have hF : ∀ i, Tm b l0 k0 (F i).1 (F i).2.1 (F i).2.2 := fun i => by
    induction i with
    | zero => exact Tm.init hB h0 k0
    | succ i ih => exact Tm.step hB ih
  have hFk : ∀ i, (F i).2.1 = k0 / 2 ^ i := fun i => by
    induction i with
    | zero => show k0 = _; simp
    | succ i ih =>
      show (F i).2.1 / 2 = _
      rw [ih, Nat.div_div_eq_div_mul, Nat.pow_succ]
  have hex : ∃ i, i ≤ 47 ∧ (F i).2.1 = 0 ∧ ∀ j, j < i → (F j).2.1 ≠ 0 := by
    have h47 : (F 47).2.1 = 0 := by rw [hFk]; exact Nat.div_eq_of_lt hk2
    have : ∀ n, (F n).2.1 = 0 → ∃ i, i ≤ n ∧ (F i).2.1 = 0 ∧ ∀ j, j < i → (F j).2.1 ≠ 0 := fun n => by
      induction n with
      | zero => intro h; exact ⟨0, Nat.le_refl _, h, fun j hj => by omega⟩
      | succ n ih =>
        intro h
        by_cases hn : (F n).2.1 = 0
        · obtain ⟨i, a, c, d⟩ := ih hn
          exact ⟨i, by omega, c, d⟩
        · refine ⟨n + 1, Nat.le_refl _, h, fun j hj h2 => hn ?_⟩
          rw [hFk] at h2 ⊢
          rw [Nat.div_eq_zero_iff] at h2 ⊢
          rcases h2 with h2 | h2
          · exact absurd h2 (by have := Nat.two_pow_pos j; omega)
          · right
            exact Nat.lt_of_lt_of_le h2 (Nat.pow_le_pow_right (by omega) (by omega))
    exact this 47 h47
  obtain ⟨I, hI, hI0, hIn⟩ := hex
  have hfresh : ∀ i, i ≤ I → (∀ j, j < i → (F j).2.1 % 2 ≠ 1) → (F i).2.2 = zer b.length ∧ (F i).2.1 ≠ 0 := fun i => by
    induction i with
    | zero => intro _ _; exact ⟨rfl, by show k0 ≠ 0; omega⟩
    | succ i ih =>
      intro hi h
      obtain ⟨a, c⟩ := ih (by omega) fun j hj => h j (by omega)
      have h2 := h i (by omega)
      constructor
      · show (if (F i).2.1 % 2 = 1 then _ else (F i).2.2) = _
        rw [if_neg h2]; exact a
      · show (F i).2.1 / 2 ≠ 0
        omega
  refine ⟨(F I).2.2, (F I).1, by have := hF I; rwa [hI0] at this, ?_⟩
  have e77 := fun (i : Nat) (args : List AV) (H : Heap) (y : AV) (a : List Int) (hy : IsL y a) (ha : RZ b a) (hz : frzL H 40 args = some [y, .rd 1 b.length (iL (F i).1)]) => c77f (m := m) hy (rd_isL (hF i).rl.len) (by rw [ha.len]; exact hn1) (by rw [ha.len]; omega) (by rw [(hF i).rl.len, ha.len]) (fun v hv => by
    obtain ⟨a1, a2, a3⟩ := ha.val hB
    rw [ha.len] at hv
    rcases Nat.eq_zero_or_pos v with e | e
    · subst e; omega
    · have := a1 v hv (by omega); omega) (fun v hv => by
    obtain ⟨a1, a2, a3⟩ := (hF i).rl.val hB
    rw [ha.len] at hv
    rcases Nat.eq_zero_or_pos v with e | e
    · subst e; omega
    · have := a1 v hv (by omega); omega) (by omega) H hz
  have e111 := fun (i : Nat) (a : List Int) (ha : RZ b a) H => c111 hx (rd_isL (n := b.length) (show (pl a (F i).1).length = b.length by rw [pl_len, ha.len])) hB (ha.near hB (hF i).rl) (m := m) (by omega) H
  refine f_enter rfl rfl ?_
  generalize evF tab it m = call at *
  have hzl : List.replicate b.length (0 : Int) = zer b.length := rfl
  repeat' first
 | (apply s_mov; exact aW)
 | (apply c_nil)
 | (apply s_en; exact aO; exact mk _ _)
 | (apply s_lenRd; exact rfl)
 | (apply c_seq)
 | (apply c_reg)
 | (apply c_block)
 | (with_reducible apply k_c)
  refine c_loop ?_
  refine loop_gc (σ := Nat × Bool) (fun s => [x, .rd 1 b.length (iL (F s.1).1), .int .i64 (((F s.1).2.1 : Nat) : Int), if s.2 = true then .sl 0 1 0 b.length else .rd 1 b.length (iL (F s.1).2.2)]) (fun s => if s.2 = true then [some (.data (iL (zer b.length)))] else []) (fun s => s.1 ≤ I ∧ (s.2 = true → ∀ j, j < s.1 → (F j).2.1 % 2 ≠ 1)) (fun s => I - s.1) ?_ _ (0, true) _ _ ⟨by dsimp only; omega, fun _ j hj => by dsimp only at hj; omega⟩ (by show I - 0 < _; omega) (by
    simp only [if_true]
    show _ = some ([x, .rd 1 b.length (iL l0), .int .i64 (k0 : Int), .sl 0 1 0 b.length], [some (HO.data (iL (zer b.length)))])
    exact (by simp [go_sem, fx, zer]; done))
  intro ⟨i, fr⟩ ⟨hi, hfr⟩ K hKl
  dsimp only at hi hfr hKl ⊢
  have hk := hFk i
  have hkb : (F i).2.1 < 9223372036854775808 := by
    rw [hk]
    have := Nat.div_le_self k0 (2 ^ i)
    omega
  have hTi := hF i
  by_cases hiI : i < I
  · have hne := hIn i hiI
    have hK1 := fun fr => hKl (i + 1, fr)
    dsimp only at hK1
    have n1 : (F (i + 1)).1 = redL b (pl (F i).1 (F i).1) 0 := rfl
    have n2 : (F (i + 1)).2.1 = (F i).2.1 / 2 := rfl
    have n3 : (F (i + 1)).2.2 = if (F i).2.1 % 2 = 1 then redL b (pl (F i).2.2 (F i).1) 0 else (F i).2.2 := rfl
    rw [n1, n2, n3] at hK1
    have e77l := fun H => e77 i [.rd 1 b.length (iL (F i).1), .rd 1 b.length (iL (F i).1)] H _ _ (rd_isL hTi.rl.len) hTi.rl (by simp [frzL, frzV])
    have e111l := fun H => e111 i _ hTi.rl H
    have e111o := fun H => e111 i _ hTi.ro H
    have e77o := fun H => e77 i [.rd 1 b.length (iL (F i).2.2), .rd 1 b.length (iL (F i).1)] H _ _ (rd_isL hTi.ro.len) hTi.ro (by simp [frzL, frzV])
    have e77z := fun (hz : (F i).2.2 = zer b.length) => e77 i [.sl 0 1 0 b.length, .rd 1 b.length (iL (F i).1)] [some (.data (iL (zer b.length)))] _ _ (rd_isL hTi.ro.len) hTi.ro (by
      rw [hz]
      exact frzL_cons (frz_sl rfl (by simp [zer])) (frzL_cons rfl frzL_nil))
    rw [hTi.rl.len] at e77l
    rw [hTi.ro.len] at e77o e77z
    have hz := fun h : fr = true => (hfresh i (by omega) (hfr h)).1
    have hfr2 : fr = true → (F i).2.1 % 2 ≠ 1 → ∀ j, j < i + 1 → (F j).2.1 % 2 ≠ 1 := fun h1 h2 j hj => by
      rcases (by omega : j < i ∨ j = i) with h | h
      · exact hfr h1 j h
      · rw [h]; exact h2
    clear hF hFk hIn hfresh e77 e111 hKl n1 n2 n3 hk hTi h0 hI0 hfr
    generalize (F i).1 = L at *
    generalize (F i).2.1 = k at *
    generalize (F i).2.2 = O at *
    by_cases hodd : k % 2 = 1
    · simp only [if_pos hodd] at hK1
      cases fr with
      | true =>
        have e77z' := e77z (hz rfl)
        simp only [if_true]
        repeat' first
 | (apply s_mov; exact aW)
 | (apply c_nil)
 | (apply s_gtr; exact rfl; all_goals (intro _; try (exfalso; omega)))
 | (apply s_eql; exact rfl; all_goals (intro _; try (exfalso; omega)))
 | (apply s_cn; exact aO; exact e77z')
 | (apply s_cn; exact aO; exact e77l _)
 | (apply s_cn; exact aO; exact e111l _)
 | (apply s_cn; exact aO; exact e111o _)
 | (apply s_and1; exact rfl; omega)
 | (apply s_shr1; exact rfl)
 | (apply c_seq)
 | (apply c_reg)
 | (apply c_block)
 | (apply c_skip)
 | (apply c_condT; exact rfl)
 | (with_reducible apply k_c)
        all_goals first
          | (exfalso; omega)
          | (refine hK1 false _ _ ⟨by omega, fun h => by cases h⟩ (by omega) ?_
             exact gc_to rfl (by simp [idFreeL, AV.idFree, fx]))
      | false =>
        simp only [Bool.false_eq_true, if_false]
        repeat' first
 | (apply s_mov; exact aW)
 | (apply c_nil)
 | (apply s_gtr; exact rfl; all_goals (intro _; try (exfalso; omega)))
 | (apply s_eql; exact rfl; all_goals (intro _; try (exfalso; omega)))
 | (apply s_cn; exact aO; exact e77o _)
 | (apply s_cn; exact aO; exact e77l _)
 | (apply s_cn; exact aO; exact e111l _)
 | (apply s_cn; exact aO; exact e111o _)
 | (apply s_and1; exact rfl; omega)
 | (apply s_shr1; exact rfl)
 | (apply c_seq)
 | (apply c_reg)
 | (apply c_block)
 | (apply c_skip)
 | (apply c_condT; exact rfl)
 | (with_reducible apply k_c)
        all_goals first
          | (exfalso; omega)
          | (refine hK1 false _ _ ⟨by omega, fun h => by cases h⟩ (by omega) ?_
             exact gc_to rfl (by simp [idFreeL, AV.idFree, fx]))
    · simp only [if_neg hodd] at hK1
      cases fr with
      | true =>
        simp only [if_true]
        repeat' first
 | (apply s_mov; exact aW)
 | (apply c_nil)
 | (apply s_gtr; exact rfl; all_goals (intro _; try (exfalso; omega)))
 | (apply s_eql; exact rfl; all_goals (intro _; try (exfalso; omega)))
 | (apply s_cn; exact aO; exact e77l _)
 | (apply s_cn; exact aO; exact e111l _)
 | (apply s_and1; exact rfl; omega)
 | (apply s_shr1; exact rfl)
 | (apply c_seq)
 | (apply c_reg)
 | (apply c_block)
 | (apply c_skip)
 | (apply c_condT; exact rfl)
 | (apply c_condF; exact rfl)
 | (with_reducible apply k_c)
        all_goals first
          | (exfalso; omega)
          | (refine hK1 true _ _ ⟨by omega, fun _ => hfr2 rfl hodd⟩ (by omega) ?_
             simp only [if_true]
             exact (by simp [go_sem, fx]; done))
      | false =>
        simp only [Bool.false_eq_true, if_false]
        repeat' first
 | (apply s_mov; exact aW)
 | (apply c_nil)
 | (apply s_gtr; exact rfl; all_goals (intro _; try (exfalso; omega)))
 | (apply s_eql; exact rfl; all_goals (intro _; try (exfalso; omega)))
 | (apply s_cn; exact aO; exact e77l _)
 | (apply s_cn; exact aO; exact e111l _)
 | (apply s_and1; exact rfl; omega)
 | (apply s_shr1; exact rfl)
 | (apply c_seq)
 | (apply c_reg)
 | (apply c_block)
 | (apply c_skip)
 | (apply c_condT; exact rfl)
 | (apply c_condF; exact rfl)
 | (with_reducible apply k_c)
        all_goals first
          | (exfalso; omega)
          | (refine hK1 false _ _ ⟨by omega, fun h => by cases h⟩ (by omega) ?_
             exact gc_to rfl (by simp [idFreeL, AV.idFree, fx]))
  · obtain rfl : i = I := by omega
    have hff : fr = false := by
      cases fr with
      | false => rfl
      | true => exact absurd hI0 (hfresh i (Nat.le_refl _) (hfr rfl)).2
    subst hff
    simp only [Bool.false_eq_true, if_false]
    rw [hI0]
    clear hKl hFk hF hfresh e77 e111
    generalize (F i).2.2 = O at *
    generalize (F i).1 = L at *
    repeat' first
 | (apply s_mov; exact aW)
 | (apply c_nil)
 | (apply s_gtr; exact rfl; all_goals (intro _; try (exfalso; omega)))
 | (apply c_seq)
 | (apply c_reg)
 | (apply c_exitH)
 | (apply c_ret)
 | (apply c_condF; exact rfl)
 | (apply c_preF; exact aK; exact aF)
 | (with_reducible apply k_c)
    all_goals try (exfalso; omega)
    exact fin_t (by (conv => lhs; whnf)) (by rfl) rfl
theorem wrapU64 {x : Int} : IntKind.u64.wrap x = x % 18446744073709551616 := by
  simp [IntKind.wrap, IntKind.signed, IntKind.bits]
section
variable {call : CallF} {K : KT} {env : Env} {H : Heap} {res : R} {xs : List Opd} {d : Nat} {kp : List Opd} {r : List AI}
theorem wrapUN (a : Nat) : IntKind.u64.wrap (a : Int) = ((a % 18446744073709551616 : Nat) : Int) := by
  rw [wrapU64]; rfl
theorem s_mulU {a b : Nat} (h : opds env xs = [.int .u64 (a : Int), .int .u64 (b : Int)]) (hr : a * b < 18446744073709551616)
    (g : RR call r K ((d, .int .u64 ((a * b : Nat) : Int)) :: env) H res) : RR call (⟨.inl (.bin .mul), xs, some d, none, kp⟩ :: r) K env H res :=
  s_pd (v := .int .u64 ((a * b : Nat) : Int)) (by
    rw [h]
    simp only [evP, binV, isShift, binInt, Bool.false_eq_true, if_false, if_true]
    rw [← Int.natCast_mul, wrapUN, Nat.mod_eq_of_lt hr]) g
theorem s_mulW {a b : Nat} (h : opds env xs = [.int .u64 (a : Int), .int .u64 (b : Int)])
    (g : RR call r K ((d, .int .u64 ((a * b % 18446744073709551616 : Nat) : Int)) :: env) H res) : RR call (⟨.inl (.bin .mul), xs, some d, none, kp⟩ :: r) K env H res :=
  s_pd (v := .int .u64 ((a * b % 18446744073709551616 : Nat) : Int)) (by
    rw [h]
    simp only [evP, binV, isShift, binInt, Bool.false_eq_true, if_false, if_true]
    rw [← Int.natCast_mul, wrapUN]) g
theorem s_addU {a b : Nat} (h : opds env xs = [.int .u64 (a : Int), .int .u64 (b : Int)]) (hr : a + b < 18446744073709551616)
    (g : RR call r K ((d, .int .u64 ((a + b : Nat) : Int)) :: env) H res) : RR call (⟨.inl (.bin .add), xs, some d, none, kp⟩ :: r) K env H res :=
  s_pd (v := .int .u64 ((a + b : Nat) : Int)) (by
    rw [h]
    simp only [evP, binV, isShift, binInt, Bool.false_eq_true, if_false, if_true]
    rw [← Int.natCast_add, wrapUN, Nat.mod_eq_of_lt hr]) g
theorem s_shrU {x : Opd} {a : Nat} (h : opd env x = .int .u64 (a : Int))
    (g : RR call r K ((d, .int .u64 ((a / 4294967296 : Nat) : Int)) :: env) H res) : RR call (⟨.inl (.bin .shr), [x, .c (.int .u64 32)], some d, none, kp⟩ :: r) K env H res :=
  s_pd (v := .int .u64 ((a / 4294967296 : Nat) : Int)) (by
    have h2 : opd env (.c (.int .u64 32)) = .int .u64 32 := rfl
    simp only [opds, h, h2, evP, binV, isShift, shiftInt, if_true]
    rw [if_neg (by omega)]
    have e : ((a : Int)).fdiv (2 ^ min (Int.toNat 32) IntKind.u64.bits) = ((a / 4294967296 : Nat) : Int) := by
      show ((a : Int)).fdiv 4294967296 = _
      cases a <;> rfl
    exact congrArg (fun z => some (AV.int .u64 z)) e) g
theorem and_mask (a : Nat) (h : a < 18446744073709551616) : IntKind.u64.wrap (BitVec.ofInt IntKind.u64.bits (a : Int) &&& BitVec.ofInt IntKind.u64.bits 4294967295).toNat = ((a % 4294967296 : Nat) : Int) := by
  have h1 : (BitVec.ofInt IntKind.u64.bits (a : Int) &&& BitVec.ofInt IntKind.u64.bits 4294967295).toNat = a % 4294967296 := by
    have e1 : (BitVec.ofInt 64 (a : Int)).toNat = a := by
      rw [BitVec.toNat_ofInt]
      have : ((a : Int) % ((2 ^ 64 : Nat) : Int)) = a := Int.emod_eq_of_lt (by omega) (by simp; omega)
      rw [this]; rfl
    have e2 : (BitVec.ofInt 64 4294967295).toNat = 2 ^ 32 - 1 := rfl
    show (BitVec.ofInt 64 (a : Int) &&& BitVec.ofInt 64 4294967295).toNat = a % 4294967296
    rw [BitVec.toNat_and, e1, e2, Nat.and_two_pow_sub_one_eq_mod]
  rw [h1, wrapUN, Nat.mod_eq_of_lt (by omega)]
theorem s_andU {x : Opd} {a : Nat} (h : opd env x = .int .u64 (a : Int)) (hr : a < 18446744073709551616)
    (g : RR call r K ((d, .int .u64 ((a % 4294967296 : Nat) : Int)) :: env) H res) : RR call (⟨.inl (.bin .and), [x, .c (.int .u64 4294967295)], some d, none, kp⟩ :: r) K env H res :=
  s_pd (v := .int .u64 ((a % 4294967296 : Nat) : Int)) (by
    have h2 : opd env (.c (.int .u64 4294967295)) = .int .u64 4294967295 := rfl
    simp only [opds, h, h2, evP, binV, isShift, binInt, Bool.false_eq_true, if_false, if_true]
    exact congrArg (fun z => some (AV.int .u64 z)) (and_mask a hr)) g
end
theorem mul64_eq {x y x0 x1 y0 y1 : Nat} (e0 : x % 4294967296 = x0) (e1 : x / 4294967296 = x1) (e2 : y % 4294967296 = y0) (e3 : y / 4294967296 = y1) : x * y = x1 * y1 * 18446744073709551616 + (x1 * y0 + x0 * y1) * 4294967296 + x0 * y0 := by
  have hx : x = x1 * 4294967296 + x0 := by omega
  have hy : y = y1 * 4294967296 + y0 := by omega
  have : x * y = (x1 * 4294967296 + x0) * (y1 * 4294967296 + y0) := by rw [← hx, ← hy]
  rw [this, Nat.add_mul, Nat.mul_add, Nat.mul_add]
  have a1 : x1 * 4294967296 * (y1 * 4294967296) = x1 * y1 * 18446744073709551616 := by
    rw [Nat.mul_mul_mul_comm]
  have a2 : x1 * 4294967296 * y0 = x1 * y0 * 4294967296 := by rw [Nat.mul_right_comm]
  have a3 : x0 * (y1 * 4294967296) = x0 * y1 * 4294967296 := by rw [Nat.mul_assoc]
  rw [a1, a2, a3, Nat.add_mul]
  omega
theorem f90 {x y : Nat} (hx : x < 18446744073709551616) (hy : y < 18446744073709551616) {m : Nat} (hm : 1 ≤ m) : evF tab it m 90 [.int .u64 (x : Int), .int .u64 (y : Int)] [] = some (.tup [.int .u64 ((x * y / 18446744073709551616 : Nat) : Int), .int .u64 ((x * y % 18446744073709551616 : Nat) : Int)], []) := by
  obtain ⟨m, rfl⟩ : ∃ j, m = j + 1 := ⟨m - 1, by omega⟩
  have hxy := mul64_eq (x := x) (y := y) rfl rfl rfl rfl
  have b0 := Nat.mul_le_mul (show x % 4294967296 ≤ 4294967295 by omega) (show y % 4294967296 ≤ 4294967295 by omega)
  have b1 := Nat.mul_le_mul (show x / 4294967296 ≤ 4294967295 by omega) (show y % 4294967296 ≤ 4294967295 by omega)
  have b2 := Nat.mul_le_mul (show x % 4294967296 ≤ 4294967295 by omega) (show y / 4294967296 ≤ 4294967295 by omega)
  have b3 := Nat.mul_le_mul (show x / 4294967296 ≤ 4294967295 by omega) (show y / 4294967296 ≤ 4294967295 by omega)
  generalize hW : x * y = W at hxy
  refine f_enter rfl rfl ?_
  generalize evF tab it m = call at *
  repeat' first
 | (apply s_mov; exact aW)
 | (apply c_nil)
 | (apply s_andU; exact rfl; omega)
 | (apply s_shrU; exact rfl)
 | (apply s_mulU; exact rfl; omega)
 | (apply s_mulW; exact rfl)
 | (apply s_addU; exact rfl; omega)
 | (apply c_seq)
 | (apply c_reg)
 | (apply c_ret)
 | (with_reducible apply k_c)
  refine fin_tt (by (conv => lhs; whnf)) (by (conv => lhs; whnf)) (by rfl) (by rfl) ?_
  rw [← hW]
  congr 6
  rw [hW]
  generalize x / 4294967296 * (y / 4294967296) = p11 at *
  generalize x / 4294967296 * (y % 4294967296) = p10 at *
  generalize x % 4294967296 * (y / 4294967296) = p01 at *
  generalize x % 4294967296 * (y % 4294967296) = p00 at *
  have : ((p11 + (p10 + p00 / 4294967296) / 4294967296 + ((p10 + p00 / 4294967296) % 4294967296 + p01) / 4294967296 : Nat) : Int) = ((W / 18446744073709551616 : Nat) : Int) := by
    clear hW
    omega
  first | exact this | omega
theorem c90 {x y : Nat} (hx : x < 18446744073709551616) (hy : y < 18446744073709551616) {m : Nat} (hm : 1 ≤ m) (H : Heap) : callPure (evF tab it m) true 90 [.int .u64 (x : Int), .int .u64 (y : Int)] H = some (.tup [.int .u64 ((x * y / 18446744073709551616 : Nat) : Int), .int .u64 ((x * y % 18446744073709551616 : Nat) : Int)], H) :=
  callPure_free rfl (by simp) (f90 hx hy hm) rfl
def mo (M : List Int) (i : Nat) : Nat := (getI M i).toNat
def hv (M : List Int) : Nat → Nat
  | 0 => 1
  | k + 1 => hv M k * (mo M k / Nat.gcd (hv M k) (mo M k))
def gg (M : List Int) (k : Nat) : Nat := Nat.gcd (hv M k) (mo M k)
def part (M : List Int) (k : Nat) : Nat := mo M k / gg M k
def gapN (R M : List Int) (x : Nat) (k : Nat) : Nat := ((getI R k - x) % (mo M k : Int)).toNat
def inv (M : List Int) (k : Nat) : Nat := (invOf (hv M k / gg M k % part M k) (part M k)).toNat
def tt (R M : List Int) (x : Nat) (k : Nat) : Nat := gapN R M x k / gg M k % part M k * inv M k % part M k
def xs (R M : List Int) : Nat → Nat
  | 0 => 0
  | k + 1 => xs R M k + hv M k * tt R M (xs R M k) k
def fit (R M : List Int) (k : Nat) : Prop := gapN R M (xs R M k) k % gg M k = 0
instance (R M : List Int) (k : Nat) : Decidable (fit R M k) := by unfold fit; infer_instance
def okAt (R M : List Int) (i : Nat) : Prop := IsRest (getI R i) (getI M i) ∧ hv M (i + 1) ≤ 4611686018427387904
instance (R M : List Int) (k : Nat) : Decidable (okAt R M k) := by unfold okAt; infer_instance
theorem hv_succ (M : List Int) (k : Nat) : hv M (k + 1) = hv M k * part M k := rfl
section
variable {R M : List Int} {k : Nat}
theorem gg_pos (hm : 1 ≤ mo M k) : 1 ≤ gg M k := Nat.gcd_pos_of_pos_right _ hm
theorem gg_part (M : List Int) (k : Nat) : gg M k * part M k = mo M k := Nat.mul_div_cancel' (Nat.gcd_dvd_right _ _)
theorem part_pos (hm : 1 ≤ mo M k) : 1 ≤ part M k := by
  have := gg_part M k
  rcases Nat.eq_zero_or_pos (part M k) with e | e
  · rw [e, Nat.mul_zero] at this; omega
  · exact e
theorem part_le (M : List Int) (k : Nat) : part M k ≤ mo M k := Nat.div_le_self _ _
theorem gg_le (hm : 1 ≤ mo M k) : gg M k ≤ mo M k := Nat.le_of_dvd hm (Nat.gcd_dvd_right _ _)
theorem tt_lt (hm : 1 ≤ mo M k) (x : Nat) : tt R M x k < part M k := Nat.mod_lt _ (part_pos hm)
theorem gap_lt (hm : 1 ≤ mo M k) (x : Nat) : gapN R M x k < mo M k := by
  unfold gapN
  have a := Int.emod_nonneg (getI R k - x) (show (mo M k : Int) ≠ 0 by omega)
  have b := Int.emod_lt_of_pos (getI R k - x) (show (0 : Int) < mo M k by omega)
  omega
theorem gap_cast (hm : 1 ≤ mo M k) (x : Nat) : ((gapN R M x k : Nat) : Int) = (getI R k - x) % (mo M k : Int) := by
  unfold gapN
  exact Int.toNat_of_nonneg (Int.emod_nonneg _ (by omega))
theorem xs_lt (h : ∀ i, i < k → 1 ≤ mo M i) : xs R M k < hv M k := by
  induction k with
  | zero => exact Nat.zero_lt_one
  | succ k ih =>
    have h1 := ih fun i hi => h i (by omega)
    have h2 := tt_lt (R := R) (h k (by omega)) (xs R M k)
    rw [hv_succ]
    show xs R M k + hv M k * tt R M (xs R M k) k < _
    have := Nat.mul_le_mul_left (hv M k) (show tt R M (xs R M k) k + 1 ≤ part M k by omega)
    rw [Nat.mul_add] at this
    omega
theorem inv_eq {iv : Int} (hm : 1 ≤ mo M k) (h : (mo M k : Int) ∣ iv * ((hv M k % mo M k : Nat) : Int) - (gg M k : Nat)) : iv % (part M k : Int) = (inv M k : Nat) := by
  have hp := part_pos hm
  have hg := gg_pos hm
  have hgp := gg_part M k
  have hgh : gg M k ∣ hv M k := Nat.gcd_dvd_left _ _
  have hh : gg M k * (hv M k / gg M k) = hv M k := Nat.mul_div_cancel' hgh
  have hcop : Nat.gcd (hv M k / gg M k % part M k) (part M k) = 1 := by
    rw [← Nat.gcd_rec, Nat.gcd_comm]
    exact Nat.coprime_div_gcd_div_gcd hg
  obtain ⟨i1, i2, i3⟩ := invOf_spec hp hcop
  have e1 : ((inv M k : Nat) : Int) = invOf (hv M k / gg M k % part M k) (part M k) := Int.toNat_of_nonneg i1
  have e2 : invOf (hv M k / gg M k % part M k) (part M k) % (part M k : Int) = invOf (hv M k / gg M k % part M k) (part M k) := Int.emod_eq_of_lt i1 i2
  rw [e1, ← e2]
  generalize invOf (hv M k / gg M k % part M k) (part M k) = z at *
  generalize hH : hv M k / gg M k = h' at *
  refine inv_uniq (a := (h' : Int)) (by omega) ?_ ?_
  · have s1 : (mo M k : Int) ∣ iv * (hv M k : Nat) - (gg M k : Nat) := by
      have d : (mo M k : Int) ∣ ((hv M k : Nat) : Int) - ((hv M k % mo M k : Nat) : Int) := ⟨(hv M k / mo M k : Nat), by
        have := Nat.mod_add_div (hv M k) (mo M k)
        have : ((hv M k % mo M k : Nat) : Int) + (mo M k : Int) * ((hv M k / mo M k : Nat) : Int) = (hv M k : Nat) := by exact_mod_cast this
        omega⟩
      have := Int.dvd_add h (Int.dvd_trans d (Int.dvd_mul_left iv _))
      rw [Int.mul_sub] at this
      have e : iv * ((hv M k % mo M k : Nat) : Int) - (gg M k : Nat) + (iv * ((hv M k : Nat) : Int) - iv * ((hv M k % mo M k : Nat) : Int)) = iv * (hv M k : Nat) - (gg M k : Nat) := by omega
      rwa [e] at this
    have s2 : ((gg M k : Nat) : Int) * ((part M k : Nat) : Int) ∣ ((gg M k : Nat) : Int) * (iv * (h' : Int) - 1) := by
      have a1 : ((gg M k : Nat) : Int) * ((part M k : Nat) : Int) = (mo M k : Nat) := by exact_mod_cast hgp
      have a2 : ((gg M k : Nat) : Int) * (h' : Int) = (hv M k : Nat) := by exact_mod_cast hh
      have a3 : ((gg M k : Nat) : Int) * (iv * (h' : Int) - 1) = iv * (hv M k : Nat) - (gg M k : Nat) := by
        rw [Int.mul_sub, Int.mul_left_comm, a2, Int.mul_one]
      rw [a1, a3]
      exact s1
    exact Int.dvd_of_mul_dvd_mul_left (by omega) s2
  · have d : ((part M k : Nat) : Int) ∣ (h' : Int) - ((h' % part M k : Nat) : Int) := ⟨(h' / part M k : Nat), by
      have := Nat.mod_add_div h' (part M k)
      have : ((h' % part M k : Nat) : Int) + (part M k : Int) * ((h' / part M k : Nat) : Int) = (h' : Nat) := by exact_mod_cast this
      omega⟩
    have := Int.dvd_add i3 (Int.dvd_trans d (Int.dvd_mul_left z _))
    rw [Int.mul_sub] at this
    have e : z * ((h' % part M k : Nat) : Int) - 1 + (z * (h' : Int) - z * ((h' % part M k : Nat) : Int)) = z * (h' : Int) - 1 := by omega
    rwa [e] at this
end
end Go.AM.Ch
