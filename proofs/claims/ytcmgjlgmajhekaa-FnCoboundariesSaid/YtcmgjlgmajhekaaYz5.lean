import Derived.Test.YtcmgjlgmajhekaaYz4
import Derived.Test.YtcmgjlgmajhekaaJz1
import Derived.Test.YtcmgjlgmajhekaaYz1
import Derived.Test.YtcmgjlgmajhekaaBb
set_option linter.unusedSimpArgs false
set_option linter.unusedVariables false
namespace Go.Proofs.Ytcmgjlgmajhekaa
open Go Go.Aw Go.Pl
attribute [local go_sem] pl_fin pl_stop pl_one pl_alt PK_ap pickO List.getElem?_toArray List.getElem?_cons_zero List.getElem?_cons_succ
theorem ordL_len (most : Int) : ∀ (k : Nat) (o : List Int) (z : Int) (s : Src), (dOrdL most k o z s).1.length ≤ o.length + k
 | 0, _, _, _ => Nat.le_refl _
 | k + 1, o, z, s => by
  unfold dOrdL
  split
  ·have := ordL_len most k (o ++ [2 + (nx (nx s 2).2 (most / z - 1)).1]) (z * (2 + (nx (nx s 2).2 (most / z - 1)).1)) (nx (nx s 2).2 (most / z - 1)).2
   rw [List.length_append, List.length_singleton] at this
   omega
  ·show o.length ≤ _
   omega
theorem ord_len (s : Src) (most : Int) : (dOrd s most).1.length ≤ 4 := ordL_len most 3 _ _ _
theorem posO1 {n : Nat} (h : 1 ≤ n) : PosO [(n : Int)] := ⟨by simp, fun i hi => by
 obtain rfl : i = 0 := by simp at hi; omega
 show 1 ≤ (n : Int)
 omega⟩
theorem posO2 {n m : Nat} (h : 1 ≤ n) (h' : 1 ≤ m) : PosO [(n : Int), (m : Int)] := PosO_snoc (posO1 h) (by omega)
theorem cyc_S {n k : Nat} (n1 : 1 ≤ n) (n8 : n ≤ 8) : CocS [(n : Int)] n (cubF n (cycF n k)) := by
 have e : prodO [(n : Int)] = n := by show (n : Int) * 1 = n; omega
 refine ⟨posO1 n1, by omega, by omega, by omega, by rw [cubF_length]; omega, ?_⟩
 rw [cubF_length]
 refine cubF_B fun x _ y _ z _ => ?_
 unfold cycF
 split
 ·have := Int.emod_nonneg ((k : Int) * x) (show (n : Int) ≠ 0 by omega)
  have := Int.emod_lt_of_pos ((k : Int) * x) (show (0 : Int) < n by omega)
  omega
 ·omega
theorem mix_S {n m k : Nat} (n1 : 1 ≤ n) (m1 : 1 ≤ m) (h8 : n * m ≤ 8) : CocS [(n : Int), (m : Int)] (Nat.gcd n m : Nat) (cubF (n * m) (mixF m k (Nat.gcd n m))) := by
 have e : prodO [(n : Int), (m : Int)] = ((n * m : Nat) : Int) := by show (n : Int) * ((m : Int) * 1) = _; rw [Int.mul_one]; exact (Int.natCast_mul n m).symm
 have a1 : 1 ≤ Nat.gcd n m := Nat.gcd_pos_of_pos_left _ n1
 have a2 := Nat.le_of_dvd n1 (Nat.gcd_dvd_left n m)
 have n8 : n ≤ 8 := by
  have : n * 1 ≤ n * m := Nat.mul_le_mul_left n m1
  omega
 refine ⟨posO2 n1 m1, by omega, by omega, by omega, by rw [cubF_length]; omega, ?_⟩
 rw [cubF_length]
 refine cubF_B fun x _ y _ z _ => ?_
 unfold mixF
 split
 ·have := Int.emod_nonneg ((k : Int) * (x / m : Nat)) (show ((Nat.gcd n m : Nat) : Int) ≠ 0 by omega)
  have := Int.emod_lt_of_pos ((k : Int) * (x / m : Nat)) (show (0 : Int) < (Nat.gcd n m : Nat) by omega)
  omega
 ·omega
theorem tri_S : CocS [2, 2, 2] 2 (cubF 8 triF) := by
 have p : PosO [2, 2, 2] := ⟨by decide, fun i hi => by
  have : i = 0 ∨ i = 1 ∨ i = 2 := by simp at hi; omega
  rcases this with rfl | rfl | rfl <;> decide⟩
 have e : prodO [2, 2, 2] = 8 := by decide
 refine ⟨p, by omega, by decide, by decide, by rw [cubF_length]; omega, ?_⟩
 rw [cubF_length]
 refine cubF_B fun x hx y _ z _ => ?_
 have := tri_bd (y := y) (z := z) hx
 omega
theorem sum_S {o : List Int} {m : Int} {W V : List (List (List Int))} (h : CocS o m W) : CocS o m (sumW m W.length W V) := by
 obtain ⟨h1, h2, h3, h4, h5, h6⟩ := h
 have e : (sumW m W.length W V).length = W.length := cubF_length ..
 refine ⟨h1, h2, h3, h4, by rw [e]; exact h5, ?_⟩
 rw [e]
 unfold sumW
 refine cubF_B fun x _ y _ z _ => ?_
 have := Int.emod_nonneg (e3 W x y z + e3 V x y z) (show m ≠ 0 by omega)
 have := Int.emod_lt_of_pos (e3 W x y z + e3 V x y z) (show 0 < m by omega)
 omega
def DrC (P : Program) (f : FuncId) (s : Src) (o : List Int) (m : Int) (W : List (List (List Int))) (s' : Src) : Prop :=
 OwnCall P f [.bptr 0 0] [(0, srcB s)] [(0, srcB s'), (1, .t1 o), (2, .t3 W), (3, .bx [.ref 1 [], .int m, .ref 2 []])] (.agg [.ref 1 [], .int m, .ref 2 []]) [0]
def WayC (P : Program) (fN fC fM fT : FuncId) (d : Int) (s0 : Src) (o : List Int) (m : Int) (W : List (List (List Int))) (s1 : Src) : Prop :=
 (d = 0 ∨ d = 1) ∧ (∃ (a : Int × Src) (k : Nat), OwnCall P fN [.bptr 0 0, .int 8] [(0, srcB s0)] [(0, srcB a.2)] (.int a.1) [0] ∧ 0 ≤ a.1 ∧ a.1 ≤ 8 ∧ 1 + a.1 = m ∧ OwnCall P fN [.bptr 0 0, .int m] [(0, srcB a.2)] [(0, srcB s1)] (.int k) [0] ∧ FreshCall P fC [.int m, .int k] (.agg [.l1 o, .int m, .l3 W])) ∨
 d = 2 ∧ (∃ (a b : Int × Src) (n q l k : Nat), OwnCall P fN [.bptr 0 0, .int 4] [(0, srcB s0)] [(0, srcB a.2)] (.int a.1) [0] ∧ 0 ≤ a.1 ∧ a.1 ≤ 8 ∧ 1 + a.1 = n ∧ (8 : Int).tdiv n = q ∧ q ≤ 8 ∧ OwnCall P fN [.bptr 0 0, .int q] [(0, srcB a.2)] [(0, srcB b.2)] (.int b.1) [0] ∧ 0 ≤ b.1 ∧ b.1 ≤ 8 ∧ 1 + b.1 = l ∧ OwnCall P fN [.bptr 0 0, .int 4] [(0, srcB b.2)] [(0, srcB s1)] (.int k) [0] ∧ FreshCall P fM [.int n, .int l, .int k] (.agg [.l1 o, .int m, .l3 W])) ∨
 d = 3 ∧ FreshCall P fT [] (.agg [.l1 o, .int m, .l3 W]) ∧ s0 = s1
set_option maxRecDepth 100000 in
set_option maxHeartbeats 8000000 in
theorem drawN_ok (s : Src) (hs : s.Ok) (o : List Int) (m : Int) (W : List (List (List Int))) (s1 : Src) (n9 : Nat) (okb : s1.Ok) (hCS : CocS o m W) (lo : o.length ≤ 10) (lW : W.length = n9) (hw0 : WayC Try.prog 26 83 84 85 (nx s 5).1 (nx s 5).2 o m W s1) (h2 : ¬ (nx s1 2).1 = 0) : DrC Try.prog 76 s o m W (nx s1 2).2 := by
 have hr := next_ok s hs 5 (by omega)
 obtain ⟨r, er⟩ : ∃ r, nx s 5 = r := ⟨_, rfl⟩
 rw [er] at hr hw0
 obtain ⟨d, hd⟩ : ∃ d, r.1 = d := ⟨_, rfl⟩
 rw [hd] at hr hw0
 have hw := hw0
 unfold WayC at hw
 clear hw0
 have hU := next_ok s1 okb 2 (by omega)
 have okU := nx_ok okb 2
 have hn8 := hCS.n8
 have m1 := hCS.2.2.1
 have m2 := hCS.2.2.2.1
 rw [lW] at hn8
 unfold DrC
 refine OwnCall.intro (n := 72) (rs := [.cell 2 30]) 1 [0] (X := [0]) Try.call76 Try.func76 rfl rfl rfl (by simp only [List.length_cons, List.length_nil]; omega) (by simp [Aw.ids, rootsA, rootsAs, argSlots, slotGet]) (fun cx hcx => AT.weakG (ats_of ?_)); simp only [argSlots, Nat.zero_add, Nat.reduceAdd]
 refine gBN ?_
 refine gBN ?_
 refine gCN fun K hK => ?_
 refine fcall_src (hr) rfl rfl ?_; simp only [go_sem, seval]
 refine hK _ ?_; clear hK K
 (repeat refine ats_seq ?_); refine AT.ghost (st' := ⟨[(0, .bptr 0 0), (2, .bptr 1 0), (3, .bptr 2 0), (11, .int d)], [(0, srcB r.2), (1, .bx [.nil, .int 0, .nil]), (2, .bx [.nil, .int 0, .nil])]⟩) (ghost_can [] (by simp only [go_sem, seval, AV.int.injEq, AV.bool.injEq, AV.l1.injEq, AV.l2.injEq, AV.l3.injEq]) (by simp only [go_sem, seval])) ?_
 (repeat refine ats_seq ?_)
 refine ats_upto ⟨[(0, .bptr 0 0), (2, .bptr 1 0), (3, .bptr 2 0)], [(0, srcB s1), (1, .bx [.nil, .int 0, .nil]), (2, .bx [.ref 3 [], .int m, .ref 4 []]), (3, .t1 o), (4, .t3 W)]⟩ ?_ ?_
 ·(repeat refine ats_seq ?_); refine ats_block ?_
  rcases hw with ⟨h0, a, k, h1, h2, h3, h4, h5, h6⟩ | ⟨h0, a, b, n, q, l, k, h1, h2, h3, h4, h5, h6, h7, h8, h9, h10, h11, h12⟩ | ⟨h0, h1, h2⟩
  ·rcases h0 with rfl | rfl
   ·refine gBN ?_
    (repeat refine ats_seq ?_); refine ats_yes rfl trivial ?_
    refine ats_skip ?_
    (repeat refine ats_seq ?_); refine ats_yes rfl trivial ?_
    refine gCN fun K hK => ?_
    refine fcall_src (h1) rfl rfl ?_; simp only [go_sem, seval]
    simp only [go_sem, seval, h4]
    (repeat refine aI (hb := ?_))
    refine hK _ ?_; clear hK K
    refine gCN fun K hK => ?_
    refine fcall_src (h5) rfl rfl ?_; simp only [go_sem, seval]
    refine fcall_own rfl (h6) rfl ?_; simp only [go_sem, seval]
    refine hK _ ?_; clear hK K
    refine ats_nil (bq_n ?_)
    refine ats_nil ?_; refine Or.inl ⟨rfl, ghost_to [] []⟩
   ·refine gBN ?_
    (repeat refine ats_seq ?_); refine ats_no rfl trivial ?_
    refine gBN ?_
    (repeat refine ats_seq ?_); refine ats_yes rfl trivial ?_
    refine gCN fun K hK => ?_
    refine fcall_src (h1) rfl rfl ?_; simp only [go_sem, seval]
    simp only [go_sem, seval, h4]
    (repeat refine aI (hb := ?_))
    refine hK _ ?_; clear hK K
    refine gCN fun K hK => ?_
    refine fcall_src (h5) rfl rfl ?_; simp only [go_sem, seval]
    refine fcall_own rfl (h6) rfl ?_; simp only [go_sem, seval]
    refine hK _ ?_; clear hK K
    refine ats_nil (bq_n ?_)
    refine ats_nil ?_; refine Or.inl ⟨rfl, ghost_to [] []⟩
  ·subst h0
   refine gBN ?_
   (repeat refine ats_seq ?_); refine ats_no rfl trivial ?_
   refine gBN ?_
   (repeat refine ats_seq ?_); refine ats_no rfl trivial ?_
   refine gBN ?_
   (repeat refine ats_seq ?_); refine ats_yes rfl trivial ?_
   refine gCN fun K hK => ?_
   refine fcall_src (h1) rfl rfl ?_; simp only [go_sem, seval]
   simp only [go_sem, seval, h4]
   (repeat refine aI (hb := ?_))
   refine hK _ ?_; clear hK K
   (repeat refine ats_seq ?_); refine ats_go (by first | exact fix0 hcx | exact fix1 hcx rfl | exact fixN hcx rfl) fun K hK => ?_; simp only [go_sem, seval, h5]
   (repeat refine aI (hb := ?_))
   refine fcall_src (h7) rfl rfl ?_; simp only [go_sem, seval]
   simp only [go_sem, seval, h10]
   (repeat refine aI (hb := ?_))
   refine fcall_src (h11) rfl rfl ?_; simp only [go_sem, seval]
   refine fcall_own rfl (h12) rfl ?_; simp only [go_sem, seval]
   refine hK _ ?_; clear hK K
   refine ats_nil (bq_n ?_)
   refine ats_nil ?_; refine Or.inl ⟨rfl, ghost_to [] []⟩
  ·subst h0
   refine gBN ?_
   (repeat refine ats_seq ?_); refine ats_no rfl trivial ?_
   refine gBN ?_
   (repeat refine ats_seq ?_); refine ats_no rfl trivial ?_
   refine gBN ?_
   (repeat refine ats_seq ?_); refine ats_no rfl trivial ?_
   refine gBN ?_
   (repeat refine ats_seq ?_); refine ats_yes rfl trivial ?_
   refine gCN fun K hK => ?_
   refine fcall_own rfl (h1) rfl ?_; simp only [go_sem, seval]
   refine hK _ ?_; clear hK K
   rw [h2]
   refine ats_nil (bq_n ?_)
   refine ats_nil ?_; refine Or.inl ⟨rfl, ghost_to [] []⟩
 refine gCN fun K hK => ?_
 refine fcall_src (hU) rfl rfl ?_; simp only [go_sem, seval]
 refine hK _ ?_; clear hK K
 refine gI (fun h3 => ?_) fun h3 => ?_
 ·exact absurd h3 h2
 ·refine ats_skip ?_
  refine gBN ?_
  refine ats_ret ⟨⟨[(0, .bptr 0 0), (2, .bptr 3 0)], [(0, srcB (nx s1 2).2), (1, .t1 o), (2, .t3 W), (3, .bx [.ref 1 [], .int m, .ref 2 []])]⟩, ghost_to [2] [(1, 3), (4, 2)], .inr rfl, (by first | rfl | exact ⟨trivial, rfl⟩ | (simp only [resL, resA, go_sem, seval]; done)), (by simp [St.get, slotGet, argSlots]), rfl⟩
set_option maxRecDepth 100000 in
set_option maxHeartbeats 8000000 in
theorem drawS_ok (s : Src) (hs : s.Ok) (o : List Int) (m : Int) (W : List (List (List Int))) (s1 : Src) (n9 : Nat) (okb : s1.Ok) (hCS : CocS o m W) (lo : o.length ≤ 10) (lW : W.length = n9) (hw0 : WayC Try.prog 26 83 84 85 (nx s 5).1 (nx s 5).2 o m W s1) (h2 : (nx s1 2).1 = 0) : ∃ (V : List (List (List Int))) (s' : Src), s'.Ok ∧ CocS o m V ∧ DrC Try.prog 76 s o m V s' := by
 have hr := next_ok s hs 5 (by omega)
 obtain ⟨r, er⟩ : ∃ r, nx s 5 = r := ⟨_, rfl⟩
 rw [er] at hr hw0
 obtain ⟨d, hd⟩ : ∃ d, r.1 = d := ⟨_, rfl⟩
 rw [hd] at hr hw0
 have hw := hw0
 unfold WayC at hw
 clear hw0
 have hU := next_ok s1 okb 2 (by omega)
 have okU := nx_ok okb 2
 have hn8 := hCS.n8
 have m1 := hCS.2.2.1
 have m2 := hCS.2.2.2.1
 rw [lW] at hn8
 have hP := drawPairing_ok (nx s1 2).2 okU n9 m hn8.2 (by omega)
 obtain ⟨pk, _⟩ := pMat_fact (n := n9) (m := m) okU n9
 have pp := pMat_pair (n := n9) (s := (nx s1 2).2) okU m1
 obtain ⟨p, ep⟩ : ∃ p, pMat n9 m n9 (nx s1 2).2 = p := ⟨_, rfl⟩
 rw [ep] at hP pk pp
 rw [← lW] at hP
 have hC := l17Coboundary_ok o m n9 p.1 hCS.1 hCS.2.1 (by rw [← lW]; exact hCS.2.2.2.2.1) m1 m2 pp.1 (by omega)
 have hS := l17SumF_ok o m W o (cobW o m n9 p.1) hCS (by rw [cobW_len, lW]) (by rw [lW]; exact cobW_B m1) (by omega)
 have hSS := sum_S (V := cobW o m n9 p.1) hCS
 rw [lW] at hS hSS
 refine ⟨_, p.2, pk, hSS, ?_⟩
 clear hCS pp hSS
 unfold DrC
 refine OwnCall.intro (n := 72) (rs := [.cell 2 30]) 1 [0] (X := [0]) Try.call76 Try.func76 rfl rfl rfl (by simp only [List.length_cons, List.length_nil]; omega) (by simp [Aw.ids, rootsA, rootsAs, argSlots, slotGet]) (fun cx hcx => AT.weakG (ats_of ?_)); simp only [argSlots, Nat.zero_add, Nat.reduceAdd]
 refine gBN ?_
 refine gBN ?_
 refine gCN fun K hK => ?_
 refine fcall_src (hr) rfl rfl ?_; simp only [go_sem, seval]
 refine hK _ ?_; clear hK K
 (repeat refine ats_seq ?_); refine AT.ghost (st' := ⟨[(0, .bptr 0 0), (2, .bptr 1 0), (3, .bptr 2 0), (11, .int d)], [(0, srcB r.2), (1, .bx [.nil, .int 0, .nil]), (2, .bx [.nil, .int 0, .nil])]⟩) (ghost_can [] (by simp only [go_sem, seval, AV.int.injEq, AV.bool.injEq, AV.l1.injEq, AV.l2.injEq, AV.l3.injEq]) (by simp only [go_sem, seval])) ?_
 (repeat refine ats_seq ?_)
 refine ats_upto ⟨[(0, .bptr 0 0), (2, .bptr 1 0), (3, .bptr 2 0)], [(0, srcB s1), (1, .bx [.nil, .int 0, .nil]), (2, .bx [.ref 3 [], .int m, .ref 4 []]), (3, .t1 o), (4, .t3 W)]⟩ ?_ ?_
 ·(repeat refine ats_seq ?_); refine ats_block ?_
  rcases hw with ⟨h0, a, k, h1, h2, h3, h4, h5, h6⟩ | ⟨h0, a, b, n, q, l, k, h1, h2, h3, h4, h5, h6, h7, h8, h9, h10, h11, h12⟩ | ⟨h0, h1, h2⟩
  ·rcases h0 with rfl | rfl
   ·refine gBN ?_
    (repeat refine ats_seq ?_); refine ats_yes rfl trivial ?_
    refine ats_skip ?_
    (repeat refine ats_seq ?_); refine ats_yes rfl trivial ?_
    refine gCN fun K hK => ?_
    refine fcall_src (h1) rfl rfl ?_; simp only [go_sem, seval]
    simp only [go_sem, seval, h4]
    (repeat refine aI (hb := ?_))
    refine hK _ ?_; clear hK K
    refine gCN fun K hK => ?_
    refine fcall_src (h5) rfl rfl ?_; simp only [go_sem, seval]
    refine fcall_own rfl (h6) rfl ?_; simp only [go_sem, seval]
    refine hK _ ?_; clear hK K
    refine ats_nil (bq_n ?_)
    refine ats_nil ?_; refine Or.inl ⟨rfl, ghost_to [] []⟩
   ·refine gBN ?_
    (repeat refine ats_seq ?_); refine ats_no rfl trivial ?_
    refine gBN ?_
    (repeat refine ats_seq ?_); refine ats_yes rfl trivial ?_
    refine gCN fun K hK => ?_
    refine fcall_src (h1) rfl rfl ?_; simp only [go_sem, seval]
    simp only [go_sem, seval, h4]
    (repeat refine aI (hb := ?_))
    refine hK _ ?_; clear hK K
    refine gCN fun K hK => ?_
    refine fcall_src (h5) rfl rfl ?_; simp only [go_sem, seval]
    refine fcall_own rfl (h6) rfl ?_; simp only [go_sem, seval]
    refine hK _ ?_; clear hK K
    refine ats_nil (bq_n ?_)
    refine ats_nil ?_; refine Or.inl ⟨rfl, ghost_to [] []⟩
  ·subst h0
   refine gBN ?_
   (repeat refine ats_seq ?_); refine ats_no rfl trivial ?_
   refine gBN ?_
   (repeat refine ats_seq ?_); refine ats_no rfl trivial ?_
   refine gBN ?_
   (repeat refine ats_seq ?_); refine ats_yes rfl trivial ?_
   refine gCN fun K hK => ?_
   refine fcall_src (h1) rfl rfl ?_; simp only [go_sem, seval]
   simp only [go_sem, seval, h4]
   (repeat refine aI (hb := ?_))
   refine hK _ ?_; clear hK K
   (repeat refine ats_seq ?_); refine ats_go (by first | exact fix0 hcx | exact fix1 hcx rfl | exact fixN hcx rfl) fun K hK => ?_; simp only [go_sem, seval, h5]
   (repeat refine aI (hb := ?_))
   refine fcall_src (h7) rfl rfl ?_; simp only [go_sem, seval]
   simp only [go_sem, seval, h10]
   (repeat refine aI (hb := ?_))
   refine fcall_src (h11) rfl rfl ?_; simp only [go_sem, seval]
   refine fcall_own rfl (h12) rfl ?_; simp only [go_sem, seval]
   refine hK _ ?_; clear hK K
   refine ats_nil (bq_n ?_)
   refine ats_nil ?_; refine Or.inl ⟨rfl, ghost_to [] []⟩
  ·subst h0
   refine gBN ?_
   (repeat refine ats_seq ?_); refine ats_no rfl trivial ?_
   refine gBN ?_
   (repeat refine ats_seq ?_); refine ats_no rfl trivial ?_
   refine gBN ?_
   (repeat refine ats_seq ?_); refine ats_no rfl trivial ?_
   refine gBN ?_
   (repeat refine ats_seq ?_); refine ats_yes rfl trivial ?_
   refine gCN fun K hK => ?_
   refine fcall_own rfl (h1) rfl ?_; simp only [go_sem, seval]
   refine hK _ ?_; clear hK K
   rw [h2]
   refine ats_nil (bq_n ?_)
   refine ats_nil ?_; refine Or.inl ⟨rfl, ghost_to [] []⟩
 clear hw hr
 refine gCN fun K hK => ?_
 refine fcall_src (hU) rfl rfl ?_; simp only [go_sem, seval]
 refine hK _ ?_; clear hK K
 refine gI (fun h3 => ?_) fun h3 => ?_
 ·(repeat refine ats_seq ?_); refine AT.ghost (st' := ⟨[(0, .bptr 0 0), (2, .bptr 5 0), (3, .bptr 2 0)], [(0, srcB (nx s1 2).2), (2, .bx [.ref 3 [], .int m, .ref 4 []]), (3, .t1 o), (4, .t3 W), (5, .bx [.nil, .int 0, .nil])]⟩) (ghost_to [] [(1, 5)]) ?_
  clear hU okU m1 m2 hn8 lo pk okb
  (repeat refine ats_seq ?_)
  refine ats_plan [11, 13] (.one 5 (.one 6 (.one 7 (.one 8 (.one 9 (.one 10 (.alt 0 (.alt 1 (.alt 2 (.alt 3 (.alt 4 (.alt 11 (.one 12 (.alt 13 (.alt 14 .fin .stop) .stop)) .stop) (.alt 11 (.one 4 (.one 12 (.alt 13 (.alt 14 .fin .stop) .stop))) .stop)) (.alt 11 (.one 3 (.one 4 (.one 12 (.alt 13 (.alt 14 .fin .stop) .stop)))) .stop)) (.alt 3 (.alt 2 (.alt 4 (.alt 11 (.one 12 (.alt 13 (.alt 14 .fin .stop) .stop)) .stop) (.alt 11 (.one 4 (.one 12 (.alt 13 (.alt 14 .fin .stop) .stop))) .stop)) (.alt 4 (.alt 2 (.alt 11 (.one 12 (.alt 13 (.alt 14 .fin .stop) .stop)) .stop) (.alt 11 (.one 2 (.one 12 (.alt 13 (.alt 14 .fin .stop) .stop))) .stop)) (.alt 11 (.one 2 (.one 4 (.one 12 (.alt 13 (.alt 14 .fin .stop) .stop)))) .stop))) (.alt 11 (.one 2 (.one 3 (.one 4 (.one 12 (.alt 13 (.alt 14 .fin .stop) .stop))))) .stop))) (.alt 3 (.alt 1 (.alt 2 (.alt 4 (.alt 11 (.one 12 (.alt 13 (.alt 14 .fin .stop) .stop)) .stop) (.alt 11 (.one 4 (.one 12 (.alt 13 (.alt 14 .fin .stop) .stop))) .stop)) (.alt 4 (.alt 2 (.alt 11 (.one 12 (.alt 13 (.alt 14 .fin .stop) .stop)) .stop) (.alt 11 (.one 2 (.one 12 (.alt 13 (.alt 14 .fin .stop) .stop))) .stop)) (.alt 11 (.one 2 (.one 4 (.one 12 (.alt 13 (.alt 14 .fin .stop) .stop)))) .stop))) (.alt 4 (.alt 1 (.alt 2 (.alt 11 (.one 12 (.alt 13 (.alt 14 .fin .stop) .stop)) .stop) (.alt 11 (.one 2 (.one 12 (.alt 13 (.alt 14 .fin .stop) .stop))) .stop)) (.alt 11 (.one 1 (.one 2 (.one 12 (.alt 13 (.alt 14 .fin .stop) .stop)))) .stop)) (.alt 11 (.one 1 (.one 2 (.one 4 (.one 12 (.alt 13 (.alt 14 .fin .stop) .stop))))) .stop))) (.alt 11 (.one 1 (.one 2 (.one 3 (.one 4 (.one 12 (.alt 13 (.alt 14 .fin .stop) .stop)))))) .stop))) (.alt 1 (.alt 0 (.alt 2 (.alt 3 (.alt 4 (.alt 11 (.one 12 (.alt 13 (.alt 14 .fin .stop) .stop)) .stop) (.alt 11 (.one 4 (.one 12 (.alt 13 (.alt 14 .fin .stop) .stop))) .stop)) (.alt 11 (.one 3 (.one 4 (.one 12 (.alt 13 (.alt 14 .fin .stop) .stop)))) .stop)) (.alt 3 (.alt 2 (.alt 4 (.alt 11 (.one 12 (.alt 13 (.alt 14 .fin .stop) .stop)) .stop) (.alt 11 (.one 4 (.one 12 (.alt 13 (.alt 14 .fin .stop) .stop))) .stop)) (.alt 4 (.alt 2 (.alt 11 (.one 12 (.alt 13 (.alt 14 .fin .stop) .stop)) .stop) (.alt 11 (.one 2 (.one 12 (.alt 13 (.alt 14 .fin .stop) .stop))) .stop)) (.alt 11 (.one 2 (.one 4 (.one 12 (.alt 13 (.alt 14 .fin .stop) .stop)))) .stop))) (.alt 11 (.one 2 (.one 3 (.one 4 (.one 12 (.alt 13 (.alt 14 .fin .stop) .stop))))) .stop))) (.alt 2 (.alt 0 (.alt 3 (.alt 4 (.alt 11 (.one 12 (.alt 13 (.alt 14 .fin .stop) .stop)) .stop) (.alt 11 (.one 4 (.one 12 (.alt 13 (.alt 14 .fin .stop) .stop))) .stop)) (.alt 11 (.one 3 (.one 4 (.one 12 (.alt 13 (.alt 14 .fin .stop) .stop)))) .stop)) (.alt 3 (.alt 0 (.alt 4 (.alt 11 (.one 12 (.alt 13 (.alt 14 .fin .stop) .stop)) .stop) (.alt 11 (.one 4 (.one 12 (.alt 13 (.alt 14 .fin .stop) .stop))) .stop)) (.alt 4 (.alt 0 (.alt 11 (.one 12 (.alt 13 (.alt 14 .fin .stop) .stop)) .stop) (.alt 11 (.one 0 (.one 12 (.alt 13 (.alt 14 .fin .stop) .stop))) .stop)) (.alt 11 (.one 0 (.one 4 (.one 12 (.alt 13 (.alt 14 .fin .stop) .stop)))) .stop))) (.alt 11 (.one 0 (.one 3 (.one 4 (.one 12 (.alt 13 (.alt 14 .fin .stop) .stop))))) .stop))) (.alt 3 (.alt 0 (.alt 2 (.alt 4 (.alt 11 (.one 12 (.alt 13 (.alt 14 .fin .stop) .stop)) .stop) (.alt 11 (.one 4 (.one 12 (.alt 13 (.alt 14 .fin .stop) .stop))) .stop)) (.alt 4 (.alt 2 (.alt 11 (.one 12 (.alt 13 (.alt 14 .fin .stop) .stop)) .stop) (.alt 11 (.one 2 (.one 12 (.alt 13 (.alt 14 .fin .stop) .stop))) .stop)) (.alt 11 (.one 2 (.one 4 (.one 12 (.alt 13 (.alt 14 .fin .stop) .stop)))) .stop))) (.alt 2 (.alt 0 (.alt 4 (.alt 11 (.one 12 (.alt 13 (.alt 14 .fin .stop) .stop)) .stop) (.alt 11 (.one 4 (.one 12 (.alt 13 (.alt 14 .fin .stop) .stop))) .stop)) (.alt 4 (.alt 0 (.alt 11 (.one 12 (.alt 13 (.alt 14 .fin .stop) .stop)) .stop) (.alt 11 (.one 0 (.one 12 (.alt 13 (.alt 14 .fin .stop) .stop))) .stop)) (.alt 11 (.one 0 (.one 4 (.one 12 (.alt 13 (.alt 14 .fin .stop) .stop)))) .stop))) (.alt 4 (.alt 0 (.alt 2 (.alt 11 (.one 12 (.alt 13 (.alt 14 .fin .stop) .stop)) .stop) (.alt 11 (.one 2 (.one 12 (.alt 13 (.alt 14 .fin .stop) .stop))) .stop)) (.alt 2 (.alt 0 (.alt 11 (.one 12 (.alt 13 (.alt 14 .fin .stop) .stop)) .stop) (.alt 11 (.one 0 (.one 12 (.alt 13 (.alt 14 .fin .stop) .stop))) .stop)) (.alt 11 (.one 0 (.one 2 (.one 12 (.alt 13 (.alt 14 .fin .stop) .stop)))) .stop))) (.alt 11 (.one 0 (.one 2 (.one 4 (.one 12 (.alt 13 (.alt 14 .fin .stop) .stop))))) .stop)))) (.alt 11 (.one 0 (.one 2 (.one 3 (.one 4 (.one 12 (.alt 13 (.alt 14 .fin .stop) .stop)))))) .stop)))) (.alt 3 (.alt 0 (.alt 1 (.alt 2 (.alt 4 (.alt 11 (.one 12 (.alt 13 (.alt 14 .fin .stop) .stop)) .stop) (.alt 11 (.one 4 (.one 12 (.alt 13 (.alt 14 .fin .stop) .stop))) .stop)) (.alt 4 (.alt 2 (.alt 11 (.one 12 (.alt 13 (.alt 14 .fin .stop) .stop)) .stop) (.alt 11 (.one 2 (.one 12 (.alt 13 (.alt 14 .fin .stop) .stop))) .stop)) (.alt 11 (.one 2 (.one 4 (.one 12 (.alt 13 (.alt 14 .fin .stop) .stop)))) .stop))) (.alt 4 (.alt 1 (.alt 2 (.alt 11 (.one 12 (.alt 13 (.alt 14 .fin .stop) .stop)) .stop) (.alt 11 (.one 2 (.one 12 (.alt 13 (.alt 14 .fin .stop) .stop))) .stop)) (.alt 11 (.one 1 (.one 2 (.one 12 (.alt 13 (.alt 14 .fin .stop) .stop)))) .stop)) (.alt 11 (.one 1 (.one 2 (.one 4 (.one 12 (.alt 13 (.alt 14 .fin .stop) .stop))))) .stop))) (.alt 1 (.alt 0 (.alt 2 (.alt 4 (.alt 11 (.one 12 (.alt 13 (.alt 14 .fin .stop) .stop)) .stop) (.alt 11 (.one 4 (.one 12 (.alt 13 (.alt 14 .fin .stop) .stop))) .stop)) (.alt 4 (.alt 2 (.alt 11 (.one 12 (.alt 13 (.alt 14 .fin .stop) .stop)) .stop) (.alt 11 (.one 2 (.one 12 (.alt 13 (.alt 14 .fin .stop) .stop))) .stop)) (.alt 11 (.one 2 (.one 4 (.one 12 (.alt 13 (.alt 14 .fin .stop) .stop)))) .stop))) (.alt 2 (.alt 0 (.alt 4 (.alt 11 (.one 12 (.alt 13 (.alt 14 .fin .stop) .stop)) .stop) (.alt 11 (.one 4 (.one 12 (.alt 13 (.alt 14 .fin .stop) .stop))) .stop)) (.alt 4 (.alt 0 (.alt 11 (.one 12 (.alt 13 (.alt 14 .fin .stop) .stop)) .stop) (.alt 11 (.one 0 (.one 12 (.alt 13 (.alt 14 .fin .stop) .stop))) .stop)) (.alt 11 (.one 0 (.one 4 (.one 12 (.alt 13 (.alt 14 .fin .stop) .stop)))) .stop))) (.alt 4 (.alt 0 (.alt 2 (.alt 11 (.one 12 (.alt 13 (.alt 14 .fin .stop) .stop)) .stop) (.alt 11 (.one 2 (.one 12 (.alt 13 (.alt 14 .fin .stop) .stop))) .stop)) (.alt 2 (.alt 0 (.alt 11 (.one 12 (.alt 13 (.alt 14 .fin .stop) .stop)) .stop) (.alt 11 (.one 0 (.one 12 (.alt 13 (.alt 14 .fin .stop) .stop))) .stop)) (.alt 11 (.one 0 (.one 2 (.one 12 (.alt 13 (.alt 14 .fin .stop) .stop)))) .stop))) (.alt 11 (.one 0 (.one 2 (.one 4 (.one 12 (.alt 13 (.alt 14 .fin .stop) .stop))))) .stop)))) (.alt 4 (.alt 0 (.alt 1 (.alt 2 (.alt 11 (.one 12 (.alt 13 (.alt 14 .fin .stop) .stop)) .stop) (.alt 11 (.one 2 (.one 12 (.alt 13 (.alt 14 .fin .stop) .stop))) .stop)) (.alt 11 (.one 1 (.one 2 (.one 12 (.alt 13 (.alt 14 .fin .stop) .stop)))) .stop)) (.alt 1 (.alt 0 (.alt 2 (.alt 11 (.one 12 (.alt 13 (.alt 14 .fin .stop) .stop)) .stop) (.alt 11 (.one 2 (.one 12 (.alt 13 (.alt 14 .fin .stop) .stop))) .stop)) (.alt 2 (.alt 0 (.alt 11 (.one 12 (.alt 13 (.alt 14 .fin .stop) .stop)) .stop) (.alt 11 (.one 0 (.one 12 (.alt 13 (.alt 14 .fin .stop) .stop))) .stop)) (.alt 11 (.one 0 (.one 2 (.one 12 (.alt 13 (.alt 14 .fin .stop) .stop)))) .stop))) (.alt 11 (.one 0 (.one 1 (.one 2 (.one 12 (.alt 13 (.alt 14 .fin .stop) .stop))))) .stop))) (.alt 11 (.one 0 (.one 1 (.one 2 (.one 4 (.one 12 (.alt 13 (.alt 14 .fin .stop) .stop)))))) .stop)))) (.alt 11 (.one 0 (.one 1 (.one 2 (.one 3 (.one 4 (.one 12 (.alt 13 (.alt 14 .fin .stop) .stop))))))) .stop)))))))))) ⟨[(0, .bptr 0 0), (2, .bptr 5 0), (3, .bptr 2 0)], [(6, .t1 o), (7, .t3 (sumW m n9 W (cobW o m n9 p.1))), (0, srcB p.2), (1, .t2 p.1), (2, .bx [.ref 6 [], .int m, .ref 7 []]), (3, .t1 o), (4, .t3 W), (5, .bx [.nil, .int 0, .nil])]⟩ (by first | exact fix0 hcx | exact fixN hcx rfl) mixed (by kernel_rfl) (fun K hK => ?_) ?_
  ·simp only [go_sem, seval, Option.getD_some, and_true, true_and, and_self, List.contains_cons, List.contains_nil, Bool.or_false, Bool.or_true]
   repeat' (first | exact hK _ (by refine And.intro ?_ rfl; simp only [leS, Nat.reduceEqDiff, ↓reduceIte, true_and, and_true])  | with_reducible refine And.intro ?_ ?_ | omega | (refine fcall_box (hP) (by simp [Aw.ids]) (by simp [find]) (by simp [closedT, killT_e, killAs, killA, outQ, Aw.ids]) (by simp [killAs, killA, outQ, Aw.ids]) (by simp [Aw.ids]) ?_; simp only [Aw.ids, List.map_cons, List.map_nil, List.filter_cons, List.filter_nil, List.contains_cons, List.contains_nil, Bool.or_false, Bool.or_true, Bool.not_true, Bool.not_false, Nat.reduceBEq, Bool.false_eq_true, if_true, if_false, List.cons_append, List.nil_append]; simp only [go_sem, seval, Option.getD_some, and_true, true_and, and_self, List.contains_cons, List.contains_nil, Bool.or_false, Bool.or_true]) | ((first | refine fcall_fresh rfl (hC) ?_ | refine YR_intro (acall_fresh rfl (hC)) ?_); simp only [go_sem, seval, Option.getD_some, and_true, true_and, and_self, List.contains_cons, List.contains_nil, Bool.or_false, Bool.or_true]) | (refine fcall_own rfl (hS) rfl ?_; simp only [go_sem, seval, Option.getD_some, and_true, true_and, and_self, List.contains_cons, List.contains_nil, Bool.or_false, Bool.or_true]))
  refine gBN ?_
  refine ats_ret ⟨⟨[(0, .bptr 0 0), (2, .bptr 3 0)], [(0, srcB p.2), (1, .t1 o), (2, .t3 (sumW m n9 W (cobW o m n9 p.1))), (3, .bx [.ref 1 [], .int m, .ref 2 []])]⟩, ghost_to [1, 2, 3, 4] [(6, 1), (7, 2), (5, 3)], .inr rfl, (by first | rfl | exact ⟨trivial, rfl⟩ | (simp only [resL, resA, go_sem, seval]; done)), (by simp [St.get, slotGet, argSlots]), rfl⟩
 ·exact absurd h2 h3
end Go.Proofs.Ytcmgjlgmajhekaa
namespace Go.Proofs.Ytcmgjlgmajhekaa
open Go Go.Aw Go.Pl
set_option maxRecDepth 100000 in
set_option maxHeartbeats 8000000 in
theorem draw4_ok (s : Src) (hs : s.Ok) (hd : (nx s 5).1 = 4) : ∃ (o : List Int) (m : Int) (W : List (List (List Int))) (s' : Src), s'.Ok ∧ CocS o m W ∧ o.length ≤ 10 ∧ DrC Try.prog 76 s o m W s' := by
 have hr := next_ok s hs 5 (by omega)
 have okr := nx_ok hs 5
 obtain ⟨r, er⟩ : ∃ r, nx s 5 = r := ⟨_, rfl⟩
 rw [er] at hr okr hd
 rw [hd] at hr
 have hO : OwnCall Try.prog 22 [.bptr 0 0, .int 8] [(0, srcB r.2)] [(0, srcB (dOrd r.2 8).2), (1, .t1 (dOrd r.2 8).1)] (.ref 1 []) [0] := l06DrawOrders_ok r.2 okr 8 (by omega) (by omega)
 obtain ⟨hp, h8, j, _, _, mv⟩ := dOrd_fact okr (most := 8) (by omega)
 have lo := ord_len r.2 8
 have okO := mv.ok okr
 obtain ⟨d, ed⟩ : ∃ d, dOrd r.2 8 = d := ⟨_, rfl⟩
 rw [ed] at hO hp h8 lo okO
 have hS := l17Size_ok d.1 hp
 obtain ⟨n, hn⟩ : ∃ n : Nat, (n : Int) = prodO d.1 := ⟨(prodO d.1).toNat, by have := prodO_pos hp; omega⟩
 rw [siz8_n h8 hn] at hS
 have hQk := pick9_ok d.2 okO [1, 2, 3, 4, 5, 7, 12] (by decide) (by decide)
 rw [show (([1, 2, 3, 4, 5, 7, 12] : List Int).length : Int) = 7 from rfl] at hQk
 have okK := nx_ok okO 7
 have bK := nx_bd d.2 (n := 7) (by omega)
 obtain ⟨q, eq⟩ : ∃ q, nx d.2 7 = q := ⟨_, rfl⟩
 rw [eq] at hQk okK bK
 have hm : 1 ≤ ([1, 2, 3, 4, 5, 7, 12] : List Int).getD q.1.toNat 0 ∧ ([1, 2, 3, 4, 5, 7, 12] : List Int).getD q.1.toNat 0 ≤ 1000 := by
  have h7 : q.1.toNat < 7 := by omega
  have : ∀ i, i < 7 → 1 ≤ ([1, 2, 3, 4, 5, 7, 12] : List Int).getD i 0 ∧ ([1, 2, 3, 4, 5, 7, 12] : List Int).getD i 0 ≤ 1000 := by decide
  exact this _ h7
 obtain ⟨m, em⟩ : ∃ m, ([1, 2, 3, 4, 5, 7, 12] : List Int).getD q.1.toNat 0 = m := ⟨_, rfl⟩
 rw [em] at hQk hm
 have hP := drawPairing_ok q.2 okK n m (by omega) (by omega)
 obtain ⟨pk, _⟩ := pMat_fact (n := n) (m := m) okK n
 have pp := pMat_pair (n := n) (s := q.2) okK hm.1
 obtain ⟨p, ep⟩ : ∃ p, pMat n m n q.2 = p := ⟨_, rfl⟩
 rw [ep] at hP pk pp
 have hC := l17Coboundary_ok d.1 m n p.1 hp h8 hn hm.1 hm.2 pp.1 (by omega)
 refine ⟨d.1, m, cobW d.1 m n p.1, p.2, pk, cobW_S hp h8 hm.1 hm.2 hn, by omega, ?_⟩
 unfold DrC
 refine OwnCall.intro (n := 72) (rs := [.cell 2 30]) 1 [0] (X := [0]) Try.call76 Try.func76 rfl rfl rfl (by simp only [List.length_cons, List.length_nil]; omega) (by simp [Aw.ids, rootsA, rootsAs, argSlots, slotGet]) (fun cx hcx => AT.weakG (ats_of ?_)); simp only [argSlots, Nat.zero_add, Nat.reduceAdd]
 refine gBN ?_
 refine gBN ?_
 refine gCN fun K hK => ?_
 refine fcall_src (hr) rfl rfl ?_; simp only [go_sem, seval]
 refine hK _ ?_; clear hK K
 (repeat refine ats_seq ?_); refine AT.ghost (st' := ⟨[(0, .bptr 0 0), (2, .bptr 8 0), (11, .int 4)], [(0, srcB r.2), (8, .bx [.nil, .int 0, .nil])]⟩) (ghost_to [2] [(1, 8)]) ?_
 (repeat refine ats_seq ?_); refine ats_block ?_
 refine gBN ?_
 (repeat refine ats_seq ?_); refine ats_no rfl trivial ?_
 refine gBN ?_
 (repeat refine ats_seq ?_); refine ats_no rfl trivial ?_
 refine gBN ?_
 (repeat refine ats_seq ?_); refine ats_no rfl trivial ?_
 refine gBN ?_
 (repeat refine ats_seq ?_); refine ats_no rfl trivial ?_
 refine gCN fun K hK => ?_
 refine fcall_bx (hO) (k := ?_); simp only [Aw.ids, go_sem, seval]
 refine hK _ ?_; clear hK K
 refine gCN fun K hK => ?_
 first | refine fcall_free rfl rfl (hS) ?_ | refine YR_intro (acall_free rfl rfl (hS)) ?_
 simp only [go_sem, seval]
 refine fcall_bx (hQk) (k := ?_); simp only [Aw.ids, go_sem, seval]
 refine hK _ ?_; clear hK K
 (repeat refine ats_seq ?_); refine AT.ghost (st' := ⟨[(0, .bptr 0 0), (2, .bptr 8 0), (6, .ref 2 []), (7, .int n), (8, .int m)], [(0, srcB q.2), (2, .t1 d.1), (8, .bx [.nil, .int 0, .nil])]⟩) (ghost_to [9] [(1, 2)]) ?_
 refine gCN fun K hK => ?_
 refine fcall_bx (hP) (k := ?_); simp only [Aw.ids, go_sem, seval]
 refine fcall_own rfl (hC) rfl ?_; simp only [go_sem, seval]
 refine hK _ ?_; clear hK K
 refine ats_ret ⟨⟨[(0, .bptr 0 0), (2, .bptr 3 0)], [(0, srcB p.2), (1, .t1 d.1), (2, .t3 (cobW d.1 m n p.1)), (3, .bx [.ref 1 [], .int m, .ref 2 []])]⟩, ghost_to [1, 2] [(9, 1), (10, 2), (8, 3)], .inr rfl, (by first | rfl | exact ⟨trivial, rfl⟩ | (simp only [resL, resA, go_sem, seval]; done)), (by simp [St.get, slotGet, argSlots]), rfl⟩
theorem way_ok (s : Src) (hs : s.Ok) (hd : (nx s 5).1 = 0 ∨ (nx s 5).1 = 1 ∨ (nx s 5).1 = 2 ∨ (nx s 5).1 = 3) : ∃ (o : List Int) (m : Int) (W : List (List (List Int))) (s1 : Src), s1.Ok ∧ CocS o m W ∧ o.length ≤ 10 ∧ WayC Try.prog 26 83 84 85 (nx s 5).1 (nx s 5).2 o m W s1 := by
 have okr := nx_ok hs 5
 obtain ⟨r, er⟩ : ∃ r, nx s 5 = r := ⟨_, rfl⟩
 rw [er] at okr hd ⊢
 have cyc : r.1 = 0 ∨ r.1 = 1 → ∃ (o : List Int) (m : Int) (W : List (List (List Int))) (s1 : Src), s1.Ok ∧ CocS o m W ∧ o.length ≤ 10 ∧ WayC Try.prog 26 83 84 85 r.1 r.2 o m W s1 := fun hd => by
  have ha := next_ok r.2 okr 8 (by omega)
  have ba := nx_bd r.2 (n := 8) (by omega)
  have oka := nx_ok okr 8
  obtain ⟨a, ea⟩ : ∃ a, nx r.2 8 = a := ⟨_, rfl⟩
  rw [ea] at ha ba oka
  obtain ⟨n, en⟩ : ∃ n : Nat, 1 + a.1 = n := ⟨(1 + a.1).toNat, by omega⟩
  have n1 : 1 ≤ n := by omega
  have n8 : n ≤ 8 := by omega
  have hb := next_ok a.2 oka n (by omega)
  have bb := nx_bd a.2 (n := (n : Int)) (by omega)
  have okb := nx_ok oka n
  obtain ⟨b, eb⟩ : ∃ b, nx a.2 n = b := ⟨_, rfl⟩
  rw [eb] at hb bb okb
  obtain ⟨k, ek⟩ : ∃ k : Nat, b.1 = k := ⟨b.1.toNat, by omega⟩
  rw [ek] at hb bb
  exact ⟨_, _, _, b.2, okb, cyc_S (k := k) n1 n8, by simp, .inl ⟨hd, a, k, ha, ba.1, by omega, en, hb, l17Cyclic_ok n k n1 n8 (by omega)⟩⟩
 rcases hd with hd | hd | hd | hd
 ·exact cyc (.inl hd)
 ·exact cyc (.inr hd)
 ·have ha := next_ok r.2 okr 4 (by omega)
  have ba := nx_bd r.2 (n := 4) (by omega)
  have oka := nx_ok okr 4
  obtain ⟨a, ea⟩ : ∃ a, nx r.2 4 = a := ⟨_, rfl⟩
  rw [ea] at ha ba oka
  obtain ⟨n, en⟩ : ∃ n : Nat, 1 + a.1 = n := ⟨(1 + a.1).toNat, by omega⟩
  have n1 : 1 ≤ n := by omega
  have n4 : n ≤ 4 := by omega
  have eq8 : (8 : Int).tdiv (n : Int) = ((8 / n : Nat) : Int) := by rw [Int.tdiv_eq_ediv_of_nonneg (by omega)]; exact (Int.natCast_ediv 8 n).symm
  have nq := Nat.mul_div_le 8 n
  have q1 : 1 ≤ 8 / n := Nat.div_pos (by omega) (by omega)
  obtain ⟨q, eq⟩ : ∃ q, 8 / n = q := ⟨_, rfl⟩
  rw [eq] at eq8 nq q1
  have q8 : q ≤ 8 := by
   have : 1 * q ≤ n * q := Nat.mul_le_mul_right q n1
   omega
  have hb := next_ok a.2 oka q (by omega)
  have bb := nx_bd a.2 (n := (q : Int)) (by omega)
  have okb := nx_ok oka q
  obtain ⟨b, eb⟩ : ∃ b, nx a.2 q = b := ⟨_, rfl⟩
  rw [eb] at hb bb okb
  obtain ⟨l, el⟩ : ∃ l : Nat, 1 + b.1 = l := ⟨(1 + b.1).toNat, by omega⟩
  have hc := next_ok b.2 okb 4 (by omega)
  have bc := nx_bd b.2 (n := 4) (by omega)
  have okc := nx_ok okb 4
  obtain ⟨c, ec⟩ : ∃ c, nx b.2 4 = c := ⟨_, rfl⟩
  rw [ec] at hc bc okc
  obtain ⟨k, ek⟩ : ∃ k : Nat, c.1 = k := ⟨c.1.toNat, by omega⟩
  rw [ek] at hc bc
  have l1 : 1 ≤ l := by omega
  have nl : n * l ≤ 8 := by
   have : n * l ≤ n * q := Nat.mul_le_mul_left n (by omega)
   omega
  exact ⟨_, _, _, c.2, okc, mix_S (k := k) n1 l1 nl, by simp, .inr (.inl ⟨hd, a, b, n, q, l, k, ha, ba.1, by omega, en, eq8, q8, hb, bb.1, by omega, el, hc, l17Mixed_ok n l k n1 l1 nl (by omega)⟩)⟩
 ·exact ⟨_, _, _, r.2, okr, tri_S, by simp, .inr (.inr ⟨hd, Triple_ok, rfl⟩)⟩
theorem l17Draw_ok (s : Src) (hs : s.Ok) : ∃ (o : List Int) (m : Int) (W : List (List (List Int))) (s' : Src), s'.Ok ∧ CocS o m W ∧ o.length ≤ 10 ∧ DrC Try.prog 76 s o m W s' := by
 have hb := nx_bd s (n := 5) (by omega)
 by_cases h4 : (nx s 5).1 = 4
 ·exact draw4_ok s hs h4
 ·obtain ⟨o, m, W, s1, ok1, hC, lo, hw⟩ := way_ok s hs (by omega)
  by_cases h2 : (nx s1 2).1 = 0
  ·obtain ⟨V, s', ok', hV, hD⟩ := drawS_ok s hs o m W s1 W.length ok1 hC lo rfl hw h2
   exact ⟨o, m, V, s', ok', hV, lo, hD⟩
  ·exact ⟨o, m, W, _, nx_ok ok1 2, hC, lo, drawN_ok s hs o m W s1 W.length ok1 hC lo rfl hw h2⟩
end Go.Proofs.Ytcmgjlgmajhekaa
namespace Go.Proofs.Ytcmgjlgmajhekaa
open Go Go.Aw Go.Pl
attribute [local go_sem] pl_fin pl_stop pl_one pl_alt PK_ap pickO List.getElem?_toArray List.getElem?_cons_zero List.getElem?_cons_succ
attribute [local go_sem] pickO List.getElem?_toArray List.getElem?_cons_zero List.getElem?_cons_succ Option.getD_some and_true true_and and_self
theorem dtr {b : Bool} {P : Program} {ops : Array Oper} {n m : Nat} {l : List Oper} {cx : Cx} {a c sa sc : St} (ea : a = sa) (ec : c = sc) (h : gRun b P ops n l sa (fun st' => Ghost cx m st' sc)) : gRun b P ops n l a (fun st' => Ghost cx m st' c) := by rw [ea, ec]; exact h
set_option maxRecDepth 100000 in
set_option maxHeartbeats 8000000 in
theorem l17DrawAny_ok (s : Src) (hs : s.Ok) : ∃ (o : List Int) (m : Int) (W : List (List (List Int))) (s' : Src), s'.Ok ∧ o.length ≤ 11 ∧ W.length ≤ 8 ∧ DrC Try.prog 50 s o m W s' := by
 obtain ⟨o, m, W, s1, ok1, hC, lo, hD⟩ := l17Draw_ok s hs
 have n8 := hC.n8
 have m1 := hC.2.2.1
 have m2 := hC.2.2.2.1
 have p6 := hC.2.2.2.2.2
 obtain ⟨n, en⟩ : ∃ n, W.length = n := ⟨_, rfl⟩
 rw [en] at n8 p6
 have hc := next_ok s1 ok1 16 (by omega)
 have okc := nx_ok ok1 16
 obtain ⟨c, ec⟩ : ∃ c, nx s1 16 = c := ⟨_, rfl⟩
 rw [ec] at hc okc
 unfold DrC at hD ⊢
 by_cases c0 : c.1 = 0
 ·rw [c0] at hc
  have h1 := next_ok c.2 okc n (by omega)
  have b1 := nx_bd c.2 (n := (n : Int)) (by omega)
  have ok1 := nx_ok okc n
  obtain ⟨a1, e1⟩ : ∃ a, nx c.2 n = a := ⟨_, rfl⟩
  rw [e1] at h1 b1 ok1
  obtain ⟨i, ei⟩ : ∃ i : Nat, a1.1 = i := ⟨a1.1.toNat, by omega⟩
  rw [ei] at h1 b1
  have h2 := next_ok a1.2 ok1 n (by omega)
  have b2 := nx_bd a1.2 (n := (n : Int)) (by omega)
  have ok2 := nx_ok ok1 n
  obtain ⟨a2, e2⟩ : ∃ a, nx a1.2 n = a := ⟨_, rfl⟩
  rw [e2] at h2 b2 ok2
  obtain ⟨j, ej⟩ : ∃ j : Nat, a2.1 = j := ⟨a2.1.toNat, by omega⟩
  rw [ej] at h2 b2
  have h3 := next_ok a2.2 ok2 n (by omega)
  have b3 := nx_bd a2.2 (n := (n : Int)) (by omega)
  have ok3 := nx_ok ok2 n
  obtain ⟨a3, e3'⟩ : ∃ a, nx a2.2 n = a := ⟨_, rfl⟩
  rw [e3'] at h3 b3 ok3
  obtain ⟨k, ek⟩ : ∃ k : Nat, a3.1 = k := ⟨a3.1.toNat, by omega⟩
  rw [ek] at h3 b3
  have h4 := next_ok a3.2 ok3 (m + 1) (by omega)
  have b4 := nx_bd a3.2 (n := m + 1) (by omega)
  have ok4 := nx_ok ok3 (m + 1)
  obtain ⟨a4, e4⟩ : ∃ a, nx a3.2 (m + 1) = a := ⟨_, rfl⟩
  rw [e4] at h4 b4 ok4
  have hi : i < n := by omega
  have hj : j < n := by omega
  have hk : k < n := by omega
  have mi := p6.mat hi
  have rj := p6.row hi hj
  obtain ⟨v, ev⟩ : ∃ v, a4.1 = v := ⟨_, rfl⟩
  rw [ev] at h4 b4
  refine ⟨o, m, W.set i ((W.getD i []).set j (((W.getD i []).getD j []).set k v)), a4.2, ok4, by omega, by rw [List.length_set]; omega, ?_⟩
  refine OwnCall.introR (n := 52) (rs := [.cell 2 30]) 1 [0] (X := [0]) Try.call50 Try.func50 rfl rfl rfl (by simp only [List.length_cons, List.length_nil]; omega) (by simp [Aw.ids, rootsA, rootsAs, argSlots, slotGet]) (fun cx hcx hrd => AT.weakG (ats_of ?_)); simp only [argSlots, Nat.zero_add, Nat.reduceAdd]
  refine gBN ?_
  (repeat refine ats_seq ?_); refine AT.ghost (st' := ⟨[(0, .bptr 0 0), (2, .bptr 5 0)], [(0, srcB s), (5, .bx [.nil, .int 0, .nil])]⟩) (ghost_to [] [(1, 5)]) ?_
  refine gCN fun K hK => ?_
  refine fcall_bx (hD) (k := ?_); simp only [Aw.ids, go_sem, seval]
  refine hK _ ?_; clear hK K
  (repeat refine ats_seq ?_); refine AT.ghost (st' := ⟨[(0, .bptr 0 0), (2, .bptr 5 0), (3, .bptr 8 0)], [(0, srcB s1), (1, .t1 o), (2, .t3 W), (5, .bx [.nil, .int 0, .nil]), (8, .bx [.ref 1 [], .int m, .ref 2 []])]⟩) (ghost_to [3] [(6, 8)]) ?_
  (repeat refine ats_seq ?_); refine ats_go (by first | exact fix0 hcx | exact fix1 hcx rfl | exact fixN hcx rfl) fun K hK => ?_; simp only [go_sem, seval, en]
  (repeat refine aI (hb := ?_))
  refine hK _ ?_; clear hK K
  refine gCN fun K hK => ?_
  refine fcall_src (hc) rfl rfl ?_; simp only [go_sem, seval]
  refine hK _ ?_; clear hK K
  (repeat refine ats_seq ?_); refine AT.ghost (st' := ⟨[(0, .bptr 0 0), (2, .bptr 5 0), (3, .bptr 8 0), (4, .int n), (11, .int 0)], [(0, srcB c.2), (1, .t1 o), (2, .t3 W), (5, .bx [.nil, .int 0, .nil]), (8, .bx [.ref 1 [], .int m, .ref 2 []])]⟩) (ghost_can [] (by simp only [go_sem, seval, AV.int.injEq, AV.bool.injEq, AV.l1.injEq, AV.l2.injEq, AV.l3.injEq]) (by simp only [go_sem, seval])) ?_
  (repeat refine ats_seq ?_); refine ats_block ?_
  refine gBN ?_
  (repeat refine ats_seq ?_); refine ats_yes rfl trivial ?_
  (repeat refine ats_seq ?_)
  obtain ⟨mk, emk⟩ : ∃ mk : List (Nat × AV) → List (Nat × Tree) → St, mk = fun s h => ⟨[(0, .bptr 0 0), (2, .bptr 5 0), (3, .bptr 8 0)] ++ s, h ++ [(1, .t1 o), (2, .t3 W), (5, .bx [.nil, .int 0, .nil]), (8, .bx [.ref 1 [], .int m, .ref 2 []])]⟩ := ⟨_, rfl⟩
  obtain ⟨z0, ez0⟩ : ∃ z, z = (⟨[(0, .bptr 0 0), (2, .bptr 5 0), (3, .bptr 8 0), (16, .bptr 0 0), (17, .int n), (21, .bptr 0 0), (22, .int n), (26, .bptr 0 0), (27, .int n), (29, .bptr 0 0)], [(0, srcB c.2), (1, .t1 o), (2, .t3 W), (5, .bx [.nil, .int 0, .nil]), (8, .bx [.ref 1 [], .int m, .ref 2 []])]⟩ : St) := ⟨_, rfl⟩
  obtain ⟨z1, ez1⟩ : ∃ z, z = mk [(14, .bptr 8 2), (16, .bptr 0 0), (17, .int n), (21, .bptr 0 0), (22, .int n), (26, .bptr 0 0), (27, .int n), (29, .bptr 0 0)] [(0, srcB c.2)] := ⟨_, rfl⟩
  obtain ⟨z2, ez2⟩ : ∃ z, z = mk [(18, .int i), (21, .bptr 0 0), (22, .int n), (26, .bptr 0 0), (27, .int n), (29, .bptr 0 0)] [(0, srcB a1.2)] := ⟨_, rfl⟩
  obtain ⟨z3, ez3⟩ : ∃ z, z = mk [(16, .bptr 0 0), (17, .int n), (21, .bptr 0 0), (22, .int n), (26, .bptr 0 0), (27, .int n), (29, .bptr 0 0), (30, .bptr 8 1)] [(0, srcB c.2)] := ⟨_, rfl⟩
  obtain ⟨z4, ez4⟩ : ∃ z, z = mk [(15, .ref 2 []), (16, .bptr 0 0), (17, .int n), (21, .bptr 0 0), (22, .int n), (26, .bptr 0 0), (27, .int n), (29, .bptr 0 0)] [(0, srcB c.2)] := ⟨_, rfl⟩
  obtain ⟨z5, ez5⟩ : ∃ z, z = mk [(14, .bptr 8 2), (18, .int i), (21, .bptr 0 0), (22, .int n), (26, .bptr 0 0), (27, .int n), (29, .bptr 0 0)] [(0, srcB a1.2)] := ⟨_, rfl⟩
  obtain ⟨z6, ez6⟩ : ∃ z, z = mk [(14, .bptr 8 2), (16, .bptr 0 0), (17, .int n), (21, .bptr 0 0), (22, .int n), (26, .bptr 0 0), (27, .int n), (29, .bptr 0 0), (30, .bptr 8 1)] [(0, srcB c.2)] := ⟨_, rfl⟩
  obtain ⟨z7, ez7⟩ : ∃ z, z = mk [(18, .int i), (23, .int j), (26, .bptr 0 0), (27, .int n), (29, .bptr 0 0)] [(0, srcB a2.2)] := ⟨_, rfl⟩
  obtain ⟨z8, ez8⟩ : ∃ z, z = mk [(18, .int i), (21, .bptr 0 0), (22, .int n), (26, .bptr 0 0), (27, .int n), (29, .bptr 0 0), (30, .bptr 8 1)] [(0, srcB a1.2)] := ⟨_, rfl⟩
  obtain ⟨z9, ez9⟩ : ∃ z, z = mk [(16, .bptr 0 0), (17, .int n), (21, .bptr 0 0), (22, .int n), (26, .bptr 0 0), (27, .int n), (29, .bptr 0 0), (31, .int m)] [(0, srcB c.2)] := ⟨_, rfl⟩
  obtain ⟨z10, ez10⟩ : ∃ z, z = mk [(15, .ref 2 []), (18, .int i), (21, .bptr 0 0), (22, .int n), (26, .bptr 0 0), (27, .int n), (29, .bptr 0 0)] [(0, srcB a1.2)] := ⟨_, rfl⟩
  obtain ⟨z11, ez11⟩ : ∃ z, z = mk [(15, .ref 2 []), (16, .bptr 0 0), (17, .int n), (21, .bptr 0 0), (22, .int n), (26, .bptr 0 0), (27, .int n), (29, .bptr 0 0), (30, .bptr 8 1)] [(0, srcB c.2)] := ⟨_, rfl⟩
  obtain ⟨z12, ez12⟩ : ∃ z, z = mk [(14, .bptr 8 2), (18, .int i), (23, .int j), (26, .bptr 0 0), (27, .int n), (29, .bptr 0 0)] [(0, srcB a2.2)] := ⟨_, rfl⟩
  obtain ⟨z13, ez13⟩ : ∃ z, z = mk [(14, .bptr 8 2), (18, .int i), (21, .bptr 0 0), (22, .int n), (26, .bptr 0 0), (27, .int n), (29, .bptr 0 0), (30, .bptr 8 1)] [(0, srcB a1.2)] := ⟨_, rfl⟩
  obtain ⟨z14, ez14⟩ : ∃ z, z = mk [(14, .bptr 8 2), (16, .bptr 0 0), (17, .int n), (21, .bptr 0 0), (22, .int n), (26, .bptr 0 0), (27, .int n), (29, .bptr 0 0), (31, .int m)] [(0, srcB c.2)] := ⟨_, rfl⟩
  obtain ⟨z15, ez15⟩ : ∃ z, z = mk [(18, .int i), (23, .int j), (28, .int k), (29, .bptr 0 0)] [(0, srcB a3.2)] := ⟨_, rfl⟩
  obtain ⟨z16, ez16⟩ : ∃ z, z = mk [(18, .int i), (23, .int j), (26, .bptr 0 0), (27, .int n), (29, .bptr 0 0), (30, .bptr 8 1)] [(0, srcB a2.2)] := ⟨_, rfl⟩
  obtain ⟨z17, ez17⟩ : ∃ z, z = mk [(18, .int i), (21, .bptr 0 0), (22, .int n), (26, .bptr 0 0), (27, .int n), (29, .bptr 0 0), (31, .int m)] [(0, srcB a1.2)] := ⟨_, rfl⟩
  obtain ⟨z18, ez18⟩ : ∃ z, z = mk [(16, .bptr 0 0), (17, .int n), (21, .bptr 0 0), (22, .int n), (26, .bptr 0 0), (27, .int n), (29, .bptr 0 0), (32, .int (m + 1))] [(0, srcB c.2)] := ⟨_, rfl⟩
  obtain ⟨z19, ez19⟩ : ∃ z, z = mk [(19, .eref 2 [] i), (21, .bptr 0 0), (22, .int n), (26, .bptr 0 0), (27, .int n), (29, .bptr 0 0)] [(0, srcB a1.2)] := ⟨_, rfl⟩
  obtain ⟨z20, ez20⟩ : ∃ z, z = mk [(15, .ref 2 []), (18, .int i), (23, .int j), (26, .bptr 0 0), (27, .int n), (29, .bptr 0 0)] [(0, srcB a2.2)] := ⟨_, rfl⟩
  obtain ⟨z21, ez21⟩ : ∃ z, z = mk [(15, .ref 2 []), (18, .int i), (21, .bptr 0 0), (22, .int n), (26, .bptr 0 0), (27, .int n), (29, .bptr 0 0), (30, .bptr 8 1)] [(0, srcB a1.2)] := ⟨_, rfl⟩
  obtain ⟨z22, ez22⟩ : ∃ z, z = mk [(15, .ref 2 []), (16, .bptr 0 0), (17, .int n), (21, .bptr 0 0), (22, .int n), (26, .bptr 0 0), (27, .int n), (29, .bptr 0 0), (31, .int m)] [(0, srcB c.2)] := ⟨_, rfl⟩
  obtain ⟨z23, ez23⟩ : ∃ z, z = mk [(14, .bptr 8 2), (18, .int i), (23, .int j), (28, .int k), (29, .bptr 0 0)] [(0, srcB a3.2)] := ⟨_, rfl⟩
  obtain ⟨z24, ez24⟩ : ∃ z, z = mk [(14, .bptr 8 2), (18, .int i), (23, .int j), (26, .bptr 0 0), (27, .int n), (29, .bptr 0 0), (30, .bptr 8 1)] [(0, srcB a2.2)] := ⟨_, rfl⟩
  obtain ⟨z25, ez25⟩ : ∃ z, z = mk [(14, .bptr 8 2), (18, .int i), (21, .bptr 0 0), (22, .int n), (26, .bptr 0 0), (27, .int n), (29, .bptr 0 0), (31, .int m)] [(0, srcB a1.2)] := ⟨_, rfl⟩
  obtain ⟨z26, ez26⟩ : ∃ z, z = mk [(14, .bptr 8 2), (16, .bptr 0 0), (17, .int n), (21, .bptr 0 0), (22, .int n), (26, .bptr 0 0), (27, .int n), (29, .bptr 0 0), (32, .int (m + 1))] [(0, srcB c.2)] := ⟨_, rfl⟩
  obtain ⟨z27, ez27⟩ : ∃ z, z = mk [(18, .int i), (23, .int j), (28, .int k), (29, .bptr 0 0), (30, .bptr 8 1)] [(0, srcB a3.2)] := ⟨_, rfl⟩
  obtain ⟨z28, ez28⟩ : ∃ z, z = mk [(18, .int i), (23, .int j), (26, .bptr 0 0), (27, .int n), (29, .bptr 0 0), (31, .int m)] [(0, srcB a2.2)] := ⟨_, rfl⟩
  obtain ⟨z29, ez29⟩ : ∃ z, z = mk [(18, .int i), (21, .bptr 0 0), (22, .int n), (26, .bptr 0 0), (27, .int n), (29, .bptr 0 0), (32, .int (m + 1))] [(0, srcB a1.2)] := ⟨_, rfl⟩
  obtain ⟨z30, ez30⟩ : ∃ z, z = mk [(20, .ref 2 [i]), (21, .bptr 0 0), (22, .int n), (26, .bptr 0 0), (27, .int n), (29, .bptr 0 0)] [(0, srcB a1.2)] := ⟨_, rfl⟩
  obtain ⟨z31, ez31⟩ : ∃ z, z = mk [(19, .eref 2 [] i), (23, .int j), (26, .bptr 0 0), (27, .int n), (29, .bptr 0 0)] [(0, srcB a2.2)] := ⟨_, rfl⟩
  obtain ⟨z32, ez32⟩ : ∃ z, z = mk [(19, .eref 2 [] i), (21, .bptr 0 0), (22, .int n), (26, .bptr 0 0), (27, .int n), (29, .bptr 0 0), (30, .bptr 8 1)] [(0, srcB a1.2)] := ⟨_, rfl⟩
  obtain ⟨z33, ez33⟩ : ∃ z, z = mk [(15, .ref 2 []), (18, .int i), (23, .int j), (28, .int k), (29, .bptr 0 0)] [(0, srcB a3.2)] := ⟨_, rfl⟩
  obtain ⟨z34, ez34⟩ : ∃ z, z = mk [(15, .ref 2 []), (18, .int i), (23, .int j), (26, .bptr 0 0), (27, .int n), (29, .bptr 0 0), (30, .bptr 8 1)] [(0, srcB a2.2)] := ⟨_, rfl⟩
  obtain ⟨z35, ez35⟩ : ∃ z, z = mk [(15, .ref 2 []), (18, .int i), (21, .bptr 0 0), (22, .int n), (26, .bptr 0 0), (27, .int n), (29, .bptr 0 0), (31, .int m)] [(0, srcB a1.2)] := ⟨_, rfl⟩
  obtain ⟨z36, ez36⟩ : ∃ z, z = mk [(15, .ref 2 []), (16, .bptr 0 0), (17, .int n), (21, .bptr 0 0), (22, .int n), (26, .bptr 0 0), (27, .int n), (29, .bptr 0 0), (32, .int (m + 1))] [(0, srcB c.2)] := ⟨_, rfl⟩
  obtain ⟨z37, ez37⟩ : ∃ z, z = mk [(14, .bptr 8 2), (18, .int i), (23, .int j), (28, .int k), (29, .bptr 0 0), (30, .bptr 8 1)] [(0, srcB a3.2)] := ⟨_, rfl⟩
  obtain ⟨z38, ez38⟩ : ∃ z, z = mk [(14, .bptr 8 2), (18, .int i), (23, .int j), (26, .bptr 0 0), (27, .int n), (29, .bptr 0 0), (31, .int m)] [(0, srcB a2.2)] := ⟨_, rfl⟩
  obtain ⟨z39, ez39⟩ : ∃ z, z = mk [(14, .bptr 8 2), (18, .int i), (21, .bptr 0 0), (22, .int n), (26, .bptr 0 0), (27, .int n), (29, .bptr 0 0), (32, .int (m + 1))] [(0, srcB a1.2)] := ⟨_, rfl⟩
  obtain ⟨z40, ez40⟩ : ∃ z, z = mk [(18, .int i), (23, .int j), (28, .int k), (29, .bptr 0 0), (31, .int m)] [(0, srcB a3.2)] := ⟨_, rfl⟩
  obtain ⟨z41, ez41⟩ : ∃ z, z = mk [(18, .int i), (23, .int j), (26, .bptr 0 0), (27, .int n), (29, .bptr 0 0), (32, .int (m + 1))] [(0, srcB a2.2)] := ⟨_, rfl⟩
  obtain ⟨z42, ez42⟩ : ∃ z, z = mk [(20, .ref 2 [i]), (23, .int j), (26, .bptr 0 0), (27, .int n), (29, .bptr 0 0)] [(0, srcB a2.2)] := ⟨_, rfl⟩
  obtain ⟨z43, ez43⟩ : ∃ z, z = mk [(20, .ref 2 [i]), (21, .bptr 0 0), (22, .int n), (26, .bptr 0 0), (27, .int n), (29, .bptr 0 0), (30, .bptr 8 1)] [(0, srcB a1.2)] := ⟨_, rfl⟩
  obtain ⟨z44, ez44⟩ : ∃ z, z = mk [(19, .eref 2 [] i), (23, .int j), (28, .int k), (29, .bptr 0 0)] [(0, srcB a3.2)] := ⟨_, rfl⟩
  obtain ⟨z45, ez45⟩ : ∃ z, z = mk [(19, .eref 2 [] i), (23, .int j), (26, .bptr 0 0), (27, .int n), (29, .bptr 0 0), (30, .bptr 8 1)] [(0, srcB a2.2)] := ⟨_, rfl⟩
  obtain ⟨z46, ez46⟩ : ∃ z, z = mk [(19, .eref 2 [] i), (21, .bptr 0 0), (22, .int n), (26, .bptr 0 0), (27, .int n), (29, .bptr 0 0), (31, .int m)] [(0, srcB a1.2)] := ⟨_, rfl⟩
  obtain ⟨z47, ez47⟩ : ∃ z, z = mk [(15, .ref 2 []), (18, .int i), (23, .int j), (28, .int k), (29, .bptr 0 0), (30, .bptr 8 1)] [(0, srcB a3.2)] := ⟨_, rfl⟩
  obtain ⟨z48, ez48⟩ : ∃ z, z = mk [(15, .ref 2 []), (18, .int i), (23, .int j), (26, .bptr 0 0), (27, .int n), (29, .bptr 0 0), (31, .int m)] [(0, srcB a2.2)] := ⟨_, rfl⟩
  obtain ⟨z49, ez49⟩ : ∃ z, z = mk [(15, .ref 2 []), (18, .int i), (21, .bptr 0 0), (22, .int n), (26, .bptr 0 0), (27, .int n), (29, .bptr 0 0), (32, .int (m + 1))] [(0, srcB a1.2)] := ⟨_, rfl⟩
  obtain ⟨z50, ez50⟩ : ∃ z, z = mk [(14, .bptr 8 2), (18, .int i), (23, .int j), (28, .int k), (29, .bptr 0 0), (31, .int m)] [(0, srcB a3.2)] := ⟨_, rfl⟩
  obtain ⟨z51, ez51⟩ : ∃ z, z = mk [(14, .bptr 8 2), (18, .int i), (23, .int j), (26, .bptr 0 0), (27, .int n), (29, .bptr 0 0), (32, .int (m + 1))] [(0, srcB a2.2)] := ⟨_, rfl⟩
  obtain ⟨z52, ez52⟩ : ∃ z, z = mk [(18, .int i), (23, .int j), (28, .int k), (29, .bptr 0 0), (32, .int (m + 1))] [(0, srcB a3.2)] := ⟨_, rfl⟩
  obtain ⟨z53, ez53⟩ : ∃ z, z = mk [(24, .eref 2 [i] j), (26, .bptr 0 0), (27, .int n), (29, .bptr 0 0)] [(0, srcB a2.2)] := ⟨_, rfl⟩
  obtain ⟨z54, ez54⟩ : ∃ z, z = mk [(20, .ref 2 [i]), (23, .int j), (28, .int k), (29, .bptr 0 0)] [(0, srcB a3.2)] := ⟨_, rfl⟩
  obtain ⟨z55, ez55⟩ : ∃ z, z = mk [(20, .ref 2 [i]), (23, .int j), (26, .bptr 0 0), (27, .int n), (29, .bptr 0 0), (30, .bptr 8 1)] [(0, srcB a2.2)] := ⟨_, rfl⟩
  obtain ⟨z56, ez56⟩ : ∃ z, z = mk [(20, .ref 2 [i]), (21, .bptr 0 0), (22, .int n), (26, .bptr 0 0), (27, .int n), (29, .bptr 0 0), (31, .int m)] [(0, srcB a1.2)] := ⟨_, rfl⟩
  obtain ⟨z57, ez57⟩ : ∃ z, z = mk [(19, .eref 2 [] i), (23, .int j), (28, .int k), (29, .bptr 0 0), (30, .bptr 8 1)] [(0, srcB a3.2)] := ⟨_, rfl⟩
  obtain ⟨z58, ez58⟩ : ∃ z, z = mk [(19, .eref 2 [] i), (23, .int j), (26, .bptr 0 0), (27, .int n), (29, .bptr 0 0), (31, .int m)] [(0, srcB a2.2)] := ⟨_, rfl⟩
  obtain ⟨z59, ez59⟩ : ∃ z, z = mk [(19, .eref 2 [] i), (21, .bptr 0 0), (22, .int n), (26, .bptr 0 0), (27, .int n), (29, .bptr 0 0), (32, .int (m + 1))] [(0, srcB a1.2)] := ⟨_, rfl⟩
  obtain ⟨z60, ez60⟩ : ∃ z, z = mk [(15, .ref 2 []), (18, .int i), (23, .int j), (28, .int k), (29, .bptr 0 0), (31, .int m)] [(0, srcB a3.2)] := ⟨_, rfl⟩
  obtain ⟨z61, ez61⟩ : ∃ z, z = mk [(15, .ref 2 []), (18, .int i), (23, .int j), (26, .bptr 0 0), (27, .int n), (29, .bptr 0 0), (32, .int (m + 1))] [(0, srcB a2.2)] := ⟨_, rfl⟩
  obtain ⟨z62, ez62⟩ : ∃ z, z = mk [(14, .bptr 8 2), (18, .int i), (23, .int j), (28, .int k), (29, .bptr 0 0), (32, .int (m + 1))] [(0, srcB a3.2)] := ⟨_, rfl⟩
  obtain ⟨z63, ez63⟩ : ∃ z, z = mk [(18, .int i), (23, .int j), (28, .int k), (33, .int v)] [(0, srcB a4.2)] := ⟨_, rfl⟩
  obtain ⟨z64, ez64⟩ : ∃ z, z = mk [(25, .ref 2 [i, j]), (26, .bptr 0 0), (27, .int n), (29, .bptr 0 0)] [(0, srcB a2.2)] := ⟨_, rfl⟩
  obtain ⟨z65, ez65⟩ : ∃ z, z = mk [(24, .eref 2 [i] j), (28, .int k), (29, .bptr 0 0)] [(0, srcB a3.2)] := ⟨_, rfl⟩
  obtain ⟨z66, ez66⟩ : ∃ z, z = mk [(24, .eref 2 [i] j), (26, .bptr 0 0), (27, .int n), (29, .bptr 0 0), (30, .bptr 8 1)] [(0, srcB a2.2)] := ⟨_, rfl⟩
  obtain ⟨z67, ez67⟩ : ∃ z, z = mk [(20, .ref 2 [i]), (23, .int j), (28, .int k), (29, .bptr 0 0), (30, .bptr 8 1)] [(0, srcB a3.2)] := ⟨_, rfl⟩
  obtain ⟨z68, ez68⟩ : ∃ z, z = mk [(20, .ref 2 [i]), (23, .int j), (26, .bptr 0 0), (27, .int n), (29, .bptr 0 0), (31, .int m)] [(0, srcB a2.2)] := ⟨_, rfl⟩
  obtain ⟨z69, ez69⟩ : ∃ z, z = mk [(20, .ref 2 [i]), (21, .bptr 0 0), (22, .int n), (26, .bptr 0 0), (27, .int n), (29, .bptr 0 0), (32, .int (m + 1))] [(0, srcB a1.2)] := ⟨_, rfl⟩
  obtain ⟨z70, ez70⟩ : ∃ z, z = mk [(19, .eref 2 [] i), (23, .int j), (28, .int k), (29, .bptr 0 0), (31, .int m)] [(0, srcB a3.2)] := ⟨_, rfl⟩
  obtain ⟨z71, ez71⟩ : ∃ z, z = mk [(19, .eref 2 [] i), (23, .int j), (26, .bptr 0 0), (27, .int n), (29, .bptr 0 0), (32, .int (m + 1))] [(0, srcB a2.2)] := ⟨_, rfl⟩
  obtain ⟨z72, ez72⟩ : ∃ z, z = mk [(15, .ref 2 []), (18, .int i), (23, .int j), (28, .int k), (29, .bptr 0 0), (32, .int (m + 1))] [(0, srcB a3.2)] := ⟨_, rfl⟩
  obtain ⟨z73, ez73⟩ : ∃ z, z = mk [(14, .bptr 8 2), (18, .int i), (23, .int j), (28, .int k), (33, .int v)] [(0, srcB a4.2)] := ⟨_, rfl⟩
  obtain ⟨z74, ez74⟩ : ∃ z, z = mk [(25, .ref 2 [i, j]), (28, .int k), (29, .bptr 0 0)] [(0, srcB a3.2)] := ⟨_, rfl⟩
  obtain ⟨z75, ez75⟩ : ∃ z, z = mk [(25, .ref 2 [i, j]), (26, .bptr 0 0), (27, .int n), (29, .bptr 0 0), (30, .bptr 8 1)] [(0, srcB a2.2)] := ⟨_, rfl⟩
  obtain ⟨z76, ez76⟩ : ∃ z, z = mk [(24, .eref 2 [i] j), (28, .int k), (29, .bptr 0 0), (30, .bptr 8 1)] [(0, srcB a3.2)] := ⟨_, rfl⟩
  obtain ⟨z77, ez77⟩ : ∃ z, z = mk [(24, .eref 2 [i] j), (26, .bptr 0 0), (27, .int n), (29, .bptr 0 0), (31, .int m)] [(0, srcB a2.2)] := ⟨_, rfl⟩
  obtain ⟨z78, ez78⟩ : ∃ z, z = mk [(20, .ref 2 [i]), (23, .int j), (28, .int k), (29, .bptr 0 0), (31, .int m)] [(0, srcB a3.2)] := ⟨_, rfl⟩
  obtain ⟨z79, ez79⟩ : ∃ z, z = mk [(20, .ref 2 [i]), (23, .int j), (26, .bptr 0 0), (27, .int n), (29, .bptr 0 0), (32, .int (m + 1))] [(0, srcB a2.2)] := ⟨_, rfl⟩
  obtain ⟨z80, ez80⟩ : ∃ z, z = mk [(19, .eref 2 [] i), (23, .int j), (28, .int k), (29, .bptr 0 0), (32, .int (m + 1))] [(0, srcB a3.2)] := ⟨_, rfl⟩
  obtain ⟨z81, ez81⟩ : ∃ z, z = mk [(15, .ref 2 []), (18, .int i), (23, .int j), (28, .int k), (33, .int v)] [(0, srcB a4.2)] := ⟨_, rfl⟩
  obtain ⟨z82, ez82⟩ : ∃ z, z = mk [(25, .ref 2 [i, j]), (28, .int k), (29, .bptr 0 0), (30, .bptr 8 1)] [(0, srcB a3.2)] := ⟨_, rfl⟩
  obtain ⟨z83, ez83⟩ : ∃ z, z = mk [(25, .ref 2 [i, j]), (26, .bptr 0 0), (27, .int n), (29, .bptr 0 0), (31, .int m)] [(0, srcB a2.2)] := ⟨_, rfl⟩
  obtain ⟨z84, ez84⟩ : ∃ z, z = mk [(24, .eref 2 [i] j), (28, .int k), (29, .bptr 0 0), (31, .int m)] [(0, srcB a3.2)] := ⟨_, rfl⟩
  obtain ⟨z85, ez85⟩ : ∃ z, z = mk [(24, .eref 2 [i] j), (26, .bptr 0 0), (27, .int n), (29, .bptr 0 0), (32, .int (m + 1))] [(0, srcB a2.2)] := ⟨_, rfl⟩
  obtain ⟨z86, ez86⟩ : ∃ z, z = mk [(20, .ref 2 [i]), (23, .int j), (28, .int k), (29, .bptr 0 0), (32, .int (m + 1))] [(0, srcB a3.2)] := ⟨_, rfl⟩
  obtain ⟨z87, ez87⟩ : ∃ z, z = mk [(19, .eref 2 [] i), (23, .int j), (28, .int k), (33, .int v)] [(0, srcB a4.2)] := ⟨_, rfl⟩
  obtain ⟨z88, ez88⟩ : ∃ z, z = mk [(25, .ref 2 [i, j]), (28, .int k), (29, .bptr 0 0), (31, .int m)] [(0, srcB a3.2)] := ⟨_, rfl⟩
  obtain ⟨z89, ez89⟩ : ∃ z, z = mk [(25, .ref 2 [i, j]), (26, .bptr 0 0), (27, .int n), (29, .bptr 0 0), (32, .int (m + 1))] [(0, srcB a2.2)] := ⟨_, rfl⟩
  obtain ⟨z90, ez90⟩ : ∃ z, z = mk [(24, .eref 2 [i] j), (28, .int k), (29, .bptr 0 0), (32, .int (m + 1))] [(0, srcB a3.2)] := ⟨_, rfl⟩
  obtain ⟨z91, ez91⟩ : ∃ z, z = mk [(20, .ref 2 [i]), (23, .int j), (28, .int k), (33, .int v)] [(0, srcB a4.2)] := ⟨_, rfl⟩
  obtain ⟨z92, ez92⟩ : ∃ z, z = mk [(25, .ref 2 [i, j]), (28, .int k), (29, .bptr 0 0), (32, .int (m + 1))] [(0, srcB a3.2)] := ⟨_, rfl⟩
  obtain ⟨z93, ez93⟩ : ∃ z, z = mk [(24, .eref 2 [i] j), (28, .int k), (33, .int v)] [(0, srcB a4.2)] := ⟨_, rfl⟩
  obtain ⟨z94, ez94⟩ : ∃ z, z = mk [(25, .ref 2 [i, j]), (28, .int k), (33, .int v)] [(0, srcB a4.2)] := ⟨_, rfl⟩
  obtain ⟨z95, ez95⟩ : ∃ z, z = mk [(33, .int v), (34, .eref 2 [i, j] k)] [(0, srcB a4.2)] := ⟨_, rfl⟩
  obtain ⟨z96, ez96⟩ : ∃ z, z = (⟨[(0, .bptr 0 0), (2, .bptr 5 0), (3, .bptr 8 0)], [(0, srcB a4.2), (1, .t1 o), (2, .t3 (W.set i ((W.getD i []).set j (((W.getD i []).getD j []).set k v)))), (5, .bx [.nil, .int 0, .nil]), (8, .bx [.ref 1 [], .int m, .ref 2 []])]⟩ : St) := ⟨_, rfl⟩
  refine ats_table [4, 9, 14, 19] [2, 3, 7, 8, 12, 13, 15] [[2, 3, 7, 8, 12, 13, 15], [0, 2, 3, 7, 8, 12, 13, 15], [2, 3, 4, 7, 8, 12, 13, 15], [2, 3, 7, 8, 12, 13, 15, 16], [0, 1, 2, 3, 7, 8, 12, 13, 15], [0, 2, 3, 4, 7, 8, 12, 13, 15], [0, 2, 3, 7, 8, 12, 13, 15, 16], [2, 3, 4, 7, 8, 9, 12, 13, 15], [2, 3, 4, 7, 8, 12, 13, 15, 16], [2, 3, 7, 8, 12, 13, 15, 16, 17], [0, 1, 2, 3, 4, 7, 8, 12, 13, 15], [0, 1, 2, 3, 7, 8, 12, 13, 15, 16], [0, 2, 3, 4, 7, 8, 9, 12, 13, 15], [0, 2, 3, 4, 7, 8, 12, 13, 15, 16], [0, 2, 3, 7, 8, 12, 13, 15, 16, 17], [2, 3, 4, 7, 8, 9, 12, 13, 14, 15], [2, 3, 4, 7, 8, 9, 12, 13, 15, 16], [2, 3, 4, 7, 8, 12, 13, 15, 16, 17], [2, 3, 7, 8, 12, 13, 15, 16, 17, 18], [0, 1, 2, 3, 4, 5, 7, 8, 12, 13, 15], [0, 1, 2, 3, 4, 7, 8, 9, 12, 13, 15], [0, 1, 2, 3, 4, 7, 8, 12, 13, 15, 16], [0, 1, 2, 3, 7, 8, 12, 13, 15, 16, 17], [0, 2, 3, 4, 7, 8, 9, 12, 13, 14, 15], [0, 2, 3, 4, 7, 8, 9, 12, 13, 15, 16], [0, 2, 3, 4, 7, 8, 12, 13, 15, 16, 17], [0, 2, 3, 7, 8, 12, 13, 15, 16, 17, 18], [2, 3, 4, 7, 8, 9, 12, 13, 14, 15, 16], [2, 3, 4, 7, 8, 9, 12, 13, 15, 16, 17], [2, 3, 4, 7, 8, 12, 13, 15, 16, 17, 18], [0, 1, 2, 3, 4, 5, 6, 7, 8, 12, 13, 15], [0, 1, 2, 3, 4, 5, 7, 8, 9, 12, 13, 15], [0, 1, 2, 3, 4, 5, 7, 8, 12, 13, 15, 16], [0, 1, 2, 3, 4, 7, 8, 9, 12, 13, 14, 15], [0, 1, 2, 3, 4, 7, 8, 9, 12, 13, 15, 16], [0, 1, 2, 3, 4, 7, 8, 12, 13, 15, 16, 17], [0, 1, 2, 3, 7, 8, 12, 13, 15, 16, 17, 18], [0, 2, 3, 4, 7, 8, 9, 12, 13, 14, 15, 16], [0, 2, 3, 4, 7, 8, 9, 12, 13, 15, 16, 17], [0, 2, 3, 4, 7, 8, 12, 13, 15, 16, 17, 18], [2, 3, 4, 7, 8, 9, 12, 13, 14, 15, 16, 17], [2, 3, 4, 7, 8, 9, 12, 13, 15, 16, 17, 18], [0, 1, 2, 3, 4, 5, 6, 7, 8, 9, 12, 13, 15], [0, 1, 2, 3, 4, 5, 6, 7, 8, 12, 13, 15, 16], [0, 1, 2, 3, 4, 5, 7, 8, 9, 12, 13, 14, 15], [0, 1, 2, 3, 4, 5, 7, 8, 9, 12, 13, 15, 16], [0, 1, 2, 3, 4, 5, 7, 8, 12, 13, 15, 16, 17], [0, 1, 2, 3, 4, 7, 8, 9, 12, 13, 14, 15, 16], [0, 1, 2, 3, 4, 7, 8, 9, 12, 13, 15, 16, 17], [0, 1, 2, 3, 4, 7, 8, 12, 13, 15, 16, 17, 18], [0, 2, 3, 4, 7, 8, 9, 12, 13, 14, 15, 16, 17], [0, 2, 3, 4, 7, 8, 9, 12, 13, 15, 16, 17, 18], [2, 3, 4, 7, 8, 9, 12, 13, 14, 15, 16, 17, 18], [0, 1, 2, 3, 4, 5, 6, 7, 8, 9, 10, 12, 13, 15], [0, 1, 2, 3, 4, 5, 6, 7, 8, 9, 12, 13, 14, 15], [0, 1, 2, 3, 4, 5, 6, 7, 8, 9, 12, 13, 15, 16], [0, 1, 2, 3, 4, 5, 6, 7, 8, 12, 13, 15, 16, 17], [0, 1, 2, 3, 4, 5, 7, 8, 9, 12, 13, 14, 15, 16], [0, 1, 2, 3, 4, 5, 7, 8, 9, 12, 13, 15, 16, 17], [0, 1, 2, 3, 4, 5, 7, 8, 12, 13, 15, 16, 17, 18], [0, 1, 2, 3, 4, 7, 8, 9, 12, 13, 14, 15, 16, 17], [0, 1, 2, 3, 4, 7, 8, 9, 12, 13, 15, 16, 17, 18], [0, 2, 3, 4, 7, 8, 9, 12, 13, 14, 15, 16, 17, 18], [2, 3, 4, 7, 8, 9, 12, 13, 14, 15, 16, 17, 18, 19], [0, 1, 2, 3, 4, 5, 6, 7, 8, 9, 10, 11, 12, 13, 15], [0, 1, 2, 3, 4, 5, 6, 7, 8, 9, 10, 12, 13, 14, 15], [0, 1, 2, 3, 4, 5, 6, 7, 8, 9, 10, 12, 13, 15, 16], [0, 1, 2, 3, 4, 5, 6, 7, 8, 9, 12, 13, 14, 15, 16], [0, 1, 2, 3, 4, 5, 6, 7, 8, 9, 12, 13, 15, 16, 17], [0, 1, 2, 3, 4, 5, 6, 7, 8, 12, 13, 15, 16, 17, 18], [0, 1, 2, 3, 4, 5, 7, 8, 9, 12, 13, 14, 15, 16, 17], [0, 1, 2, 3, 4, 5, 7, 8, 9, 12, 13, 15, 16, 17, 18], [0, 1, 2, 3, 4, 7, 8, 9, 12, 13, 14, 15, 16, 17, 18], [0, 2, 3, 4, 7, 8, 9, 12, 13, 14, 15, 16, 17, 18, 19], [0, 1, 2, 3, 4, 5, 6, 7, 8, 9, 10, 11, 12, 13, 14, 15], [0, 1, 2, 3, 4, 5, 6, 7, 8, 9, 10, 11, 12, 13, 15, 16], [0, 1, 2, 3, 4, 5, 6, 7, 8, 9, 10, 12, 13, 14, 15, 16], [0, 1, 2, 3, 4, 5, 6, 7, 8, 9, 10, 12, 13, 15, 16, 17], [0, 1, 2, 3, 4, 5, 6, 7, 8, 9, 12, 13, 14, 15, 16, 17], [0, 1, 2, 3, 4, 5, 6, 7, 8, 9, 12, 13, 15, 16, 17, 18], [0, 1, 2, 3, 4, 5, 7, 8, 9, 12, 13, 14, 15, 16, 17, 18], [0, 1, 2, 3, 4, 7, 8, 9, 12, 13, 14, 15, 16, 17, 18, 19], [0, 1, 2, 3, 4, 5, 6, 7, 8, 9, 10, 11, 12, 13, 14, 15, 16], [0, 1, 2, 3, 4, 5, 6, 7, 8, 9, 10, 11, 12, 13, 15, 16, 17], [0, 1, 2, 3, 4, 5, 6, 7, 8, 9, 10, 12, 13, 14, 15, 16, 17], [0, 1, 2, 3, 4, 5, 6, 7, 8, 9, 10, 12, 13, 15, 16, 17, 18], [0, 1, 2, 3, 4, 5, 6, 7, 8, 9, 12, 13, 14, 15, 16, 17, 18], [0, 1, 2, 3, 4, 5, 7, 8, 9, 12, 13, 14, 15, 16, 17, 18, 19], [0, 1, 2, 3, 4, 5, 6, 7, 8, 9, 10, 11, 12, 13, 14, 15, 16, 17], [0, 1, 2, 3, 4, 5, 6, 7, 8, 9, 10, 11, 12, 13, 15, 16, 17, 18], [0, 1, 2, 3, 4, 5, 6, 7, 8, 9, 10, 12, 13, 14, 15, 16, 17, 18], [0, 1, 2, 3, 4, 5, 6, 7, 8, 9, 12, 13, 14, 15, 16, 17, 18, 19], [0, 1, 2, 3, 4, 5, 6, 7, 8, 9, 10, 11, 12, 13, 14, 15, 16, 17, 18], [0, 1, 2, 3, 4, 5, 6, 7, 8, 9, 10, 12, 13, 14, 15, 16, 17, 18, 19], [0, 1, 2, 3, 4, 5, 6, 7, 8, 9, 10, 11, 12, 13, 14, 15, 16, 17, 18, 19], [0, 1, 2, 3, 4, 5, 6, 7, 8, 9, 10, 11, 12, 13, 14, 15, 16, 17, 18, 19, 20], [0, 1, 2, 3, 4, 5, 6, 7, 8, 9, 10, 11, 12, 13, 14, 15, 16, 17, 18, 19, 20, 21]] [(0, 0, 1), (0, 4, 2), (0, 16, 3), (1, 1, 4), (1, 4, 5), (1, 16, 6), (2, 0, 5), (2, 9, 7), (2, 16, 8), (3, 0, 6), (3, 4, 8), (3, 17, 9), (4, 4, 10), (4, 16, 11), (5, 1, 10), (5, 9, 12), (5, 16, 13), (6, 1, 11), (6, 4, 13), (6, 17, 14), (7, 0, 12), (7, 14, 15), (7, 16, 16), (8, 0, 13), (8, 9, 16), (8, 17, 17), (9, 0, 14), (9, 4, 17), (9, 18, 18), (10, 5, 19), (10, 9, 20), (10, 16, 21), (11, 4, 21), (11, 17, 22), (12, 1, 20), (12, 14, 23), (12, 16, 24), (13, 1, 21), (13, 9, 24), (13, 17, 25), (14, 1, 22), (14, 4, 25), (14, 18, 26), (15, 0, 23), (15, 16, 27), (16, 0, 24), (16, 14, 27), (16, 17, 28), (17, 0, 25), (17, 9, 28), (17, 18, 29), (18, 0, 26), (18, 4, 29), (19, 6, 30), (19, 9, 31), (19, 16, 32), (20, 5, 31), (20, 14, 33), (20, 16, 34), (21, 5, 32), (21, 9, 34), (21, 17, 35), (22, 4, 35), (22, 18, 36), (23, 1, 33), (23, 16, 37), (24, 1, 34), (24, 14, 37), (24, 17, 38), (25, 1, 35), (25, 9, 38), (25, 18, 39), (26, 1, 36), (26, 4, 39), (27, 0, 37), (27, 17, 40), (28, 0, 38), (28, 14, 40), (28, 18, 41), (29, 0, 39), (29, 9, 41), (30, 9, 42), (30, 16, 43), (31, 6, 42), (31, 14, 44), (31, 16, 45), (32, 6, 43), (32, 9, 45), (32, 17, 46), (33, 5, 44), (33, 16, 47), (34, 5, 45), (34, 14, 47), (34, 17, 48), (35, 5, 46), (35, 9, 48), (35, 18, 49), (36, 4, 49), (37, 1, 47), (37, 17, 50), (38, 1, 48), (38, 14, 50), (38, 18, 51), (39, 1, 49), (39, 9, 51), (40, 0, 50), (40, 18, 52), (41, 0, 51), (41, 14, 52), (42, 10, 53), (42, 14, 54), (42, 16, 55), (43, 9, 55), (43, 17, 56), (44, 6, 54), (44, 16, 57), (45, 6, 55), (45, 14, 57), (45, 17, 58), (46, 6, 56), (46, 9, 58), (46, 18, 59), (47, 5, 57), (47, 17, 60), (48, 5, 58), (48, 14, 60), (48, 18, 61), (49, 5, 59), (49, 9, 61), (50, 1, 60), (50, 18, 62), (51, 1, 61), (51, 14, 62), (52, 0, 62), (52, 19, 63), (53, 11, 64), (53, 14, 65), (53, 16, 66), (54, 10, 65), (54, 16, 67), (55, 10, 66), (55, 14, 67), (55, 17, 68), (56, 9, 68), (56, 18, 69), (57, 6, 67), (57, 17, 70), (58, 6, 68), (58, 14, 70), (58, 18, 71), (59, 6, 69), (59, 9, 71), (60, 5, 70), (60, 18, 72), (61, 5, 71), (61, 14, 72), (62, 1, 72), (62, 19, 73), (63, 0, 73), (64, 14, 74), (64, 16, 75), (65, 11, 74), (65, 16, 76), (66, 11, 75), (66, 14, 76), (66, 17, 77), (67, 10, 76), (67, 17, 78), (68, 10, 77), (68, 14, 78), (68, 18, 79), (69, 9, 79), (70, 6, 78), (70, 18, 80), (71, 6, 79), (71, 14, 80), (72, 5, 80), (72, 19, 81), (73, 1, 81), (74, 16, 82), (75, 14, 82), (75, 17, 83), (76, 11, 82), (76, 17, 84), (77, 11, 83), (77, 14, 84), (77, 18, 85), (78, 10, 84), (78, 18, 86), (79, 10, 85), (79, 14, 86), (80, 6, 86), (80, 19, 87), (81, 5, 87), (82, 17, 88), (83, 14, 88), (83, 18, 89), (84, 11, 88), (84, 18, 90), (85, 11, 89), (85, 14, 90), (86, 10, 90), (86, 19, 91), (87, 6, 91), (88, 18, 92), (89, 14, 92), (90, 11, 92), (90, 19, 93), (91, 10, 93), (92, 19, 94), (93, 11, 94), (94, 20, 95), (95, 21, 96)] [z0, z1, z2, z3, z4, z5, z6, z7, z8, z9, z10, z11, z12, z13, z14, z15, z16, z17, z18, z19, z20, z21, z22, z23, z24, z25, z26, z27, z28, z29, z30, z31, z32, z33, z34, z35, z36, z37, z38, z39, z40, z41, z42, z43, z44, z45, z46, z47, z48, z49, z50, z51, z52, z53, z54, z55, z56, z57, z58, z59, z60, z61, z62, z63, z64, z65, z66, z67, z68, z69, z70, z71, z72, z73, z74, z75, z76, z77, z78, z79, z80, z81, z82, z83, z84, z85, z86, z87, z88, z89, z90, z91, z92, z93, z94, z95, z96] hrd (by first | exact fix0 hcx | exact fix1 hcx rfl | exact fixN hcx rfl) mixed (by kernel_rfl) ?_ ?_ ?_
  ·show mvTRun _ _ _ _ _ _ (fun s => Ghost _ _ s z0)
   rw [ez0]; simp only [go_sem, seval]; repeat' (first | (refine dt_can ?_ rfl; (focus ((repeat' (first | exact True.intro | refine And.intro rfl ?_)); done))) | with_reducible refine And.intro ?_ ?_ | omega)
  ·refine ⟨dtr ez0 ez1 ?_, dtr ez0 ez2 ?_, dtr ez0 ez3 ?_, dtr ez1 ez4 ?_, dtr ez1 ez5 ?_, dtr ez1 ez6 ?_, dtr ez2 ez5 ?_, dtr ez2 ez7 ?_, dtr ez2 ez8 ?_, dtr ez3 ez6 ?_, dtr ez3 ez8 ?_, dtr ez3 ez9 ?_, dtr ez4 ez10 ?_, dtr ez4 ez11 ?_, dtr ez5 ez10 ?_, dtr ez5 ez12 ?_, dtr ez5 ez13 ?_, dtr ez6 ez11 ?_, dtr ez6 ez13 ?_, dtr ez6 ez14 ?_, dtr ez7 ez12 ?_, dtr ez7 ez15 ?_, dtr ez7 ez16 ?_, dtr ez8 ez13 ?_, dtr ez8 ez16 ?_, dtr ez8 ez17 ?_, dtr ez9 ez14 ?_, dtr ez9 ez17 ?_, dtr ez9 ez18 ?_, dtr ez10 ez19 ?_, dtr ez10 ez20 ?_, dtr ez10 ez21 ?_, dtr ez11 ez21 ?_, dtr ez11 ez22 ?_, dtr ez12 ez20 ?_, dtr ez12 ez23 ?_, dtr ez12 ez24 ?_, dtr ez13 ez21 ?_, dtr ez13 ez24 ?_, dtr ez13 ez25 ?_, dtr ez14 ez22 ?_, dtr ez14 ez25 ?_, dtr ez14 ez26 ?_, dtr ez15 ez23 ?_, dtr ez15 ez27 ?_, dtr ez16 ez24 ?_, dtr ez16 ez27 ?_, dtr ez16 ez28 ?_, dtr ez17 ez25 ?_, dtr ez17 ez28 ?_, dtr ez17 ez29 ?_, dtr ez18 ez26 ?_, dtr ez18 ez29 ?_, dtr ez19 ez30 ?_, dtr ez19 ez31 ?_, dtr ez19 ez32 ?_, dtr ez20 ez31 ?_, dtr ez20 ez33 ?_, dtr ez20 ez34 ?_, dtr ez21 ez32 ?_, dtr ez21 ez34 ?_, dtr ez21 ez35 ?_, dtr ez22 ez35 ?_, dtr ez22 ez36 ?_, dtr ez23 ez33 ?_, dtr ez23 ez37 ?_, dtr ez24 ez34 ?_, dtr ez24 ez37 ?_, dtr ez24 ez38 ?_, dtr ez25 ez35 ?_, dtr ez25 ez38 ?_, dtr ez25 ez39 ?_, dtr ez26 ez36 ?_, dtr ez26 ez39 ?_, dtr ez27 ez37 ?_, dtr ez27 ez40 ?_, dtr ez28 ez38 ?_, dtr ez28 ez40 ?_, dtr ez28 ez41 ?_, dtr ez29 ez39 ?_, dtr ez29 ez41 ?_, dtr ez30 ez42 ?_, dtr ez30 ez43 ?_, dtr ez31 ez42 ?_, dtr ez31 ez44 ?_, dtr ez31 ez45 ?_, dtr ez32 ez43 ?_, dtr ez32 ez45 ?_, dtr ez32 ez46 ?_, dtr ez33 ez44 ?_, dtr ez33 ez47 ?_, dtr ez34 ez45 ?_, dtr ez34 ez47 ?_, dtr ez34 ez48 ?_, dtr ez35 ez46 ?_, dtr ez35 ez48 ?_, dtr ez35 ez49 ?_, dtr ez36 ez49 ?_, dtr ez37 ez47 ?_, dtr ez37 ez50 ?_, dtr ez38 ez48 ?_, dtr ez38 ez50 ?_, dtr ez38 ez51 ?_, dtr ez39 ez49 ?_, dtr ez39 ez51 ?_, dtr ez40 ez50 ?_, dtr ez40 ez52 ?_, dtr ez41 ez51 ?_, dtr ez41 ez52 ?_, dtr ez42 ez53 ?_, dtr ez42 ez54 ?_, dtr ez42 ez55 ?_, dtr ez43 ez55 ?_, dtr ez43 ez56 ?_, dtr ez44 ez54 ?_, dtr ez44 ez57 ?_, dtr ez45 ez55 ?_, dtr ez45 ez57 ?_, dtr ez45 ez58 ?_, dtr ez46 ez56 ?_, dtr ez46 ez58 ?_, dtr ez46 ez59 ?_, dtr ez47 ez57 ?_, dtr ez47 ez60 ?_, dtr ez48 ez58 ?_, dtr ez48 ez60 ?_, dtr ez48 ez61 ?_, dtr ez49 ez59 ?_, dtr ez49 ez61 ?_, dtr ez50 ez60 ?_, dtr ez50 ez62 ?_, dtr ez51 ez61 ?_, dtr ez51 ez62 ?_, dtr ez52 ez62 ?_, dtr ez52 ez63 ?_, dtr ez53 ez64 ?_, dtr ez53 ez65 ?_, dtr ez53 ez66 ?_, dtr ez54 ez65 ?_, dtr ez54 ez67 ?_, dtr ez55 ez66 ?_, dtr ez55 ez67 ?_, dtr ez55 ez68 ?_, dtr ez56 ez68 ?_, dtr ez56 ez69 ?_, dtr ez57 ez67 ?_, dtr ez57 ez70 ?_, dtr ez58 ez68 ?_, dtr ez58 ez70 ?_, dtr ez58 ez71 ?_, dtr ez59 ez69 ?_, dtr ez59 ez71 ?_, dtr ez60 ez70 ?_, dtr ez60 ez72 ?_, dtr ez61 ez71 ?_, dtr ez61 ez72 ?_, dtr ez62 ez72 ?_, dtr ez62 ez73 ?_, dtr ez63 ez73 ?_, dtr ez64 ez74 ?_, dtr ez64 ez75 ?_, dtr ez65 ez74 ?_, dtr ez65 ez76 ?_, dtr ez66 ez75 ?_, dtr ez66 ez76 ?_, dtr ez66 ez77 ?_, dtr ez67 ez76 ?_, dtr ez67 ez78 ?_, dtr ez68 ez77 ?_, dtr ez68 ez78 ?_, dtr ez68 ez79 ?_, dtr ez69 ez79 ?_, dtr ez70 ez78 ?_, dtr ez70 ez80 ?_, dtr ez71 ez79 ?_, dtr ez71 ez80 ?_, dtr ez72 ez80 ?_, dtr ez72 ez81 ?_, dtr ez73 ez81 ?_, dtr ez74 ez82 ?_, dtr ez75 ez82 ?_, dtr ez75 ez83 ?_, dtr ez76 ez82 ?_, dtr ez76 ez84 ?_, dtr ez77 ez83 ?_, dtr ez77 ez84 ?_, dtr ez77 ez85 ?_, dtr ez78 ez84 ?_, dtr ez78 ez86 ?_, dtr ez79 ez85 ?_, dtr ez79 ez86 ?_, dtr ez80 ez86 ?_, dtr ez80 ez87 ?_, dtr ez81 ez87 ?_, dtr ez82 ez88 ?_, dtr ez83 ez88 ?_, dtr ez83 ez89 ?_, dtr ez84 ez88 ?_, dtr ez84 ez90 ?_, dtr ez85 ez89 ?_, dtr ez85 ez90 ?_, dtr ez86 ez90 ?_, dtr ez86 ez91 ?_, dtr ez87 ez91 ?_, dtr ez88 ez92 ?_, dtr ez89 ez92 ?_, dtr ez90 ez92 ?_, dtr ez90 ez93 ?_, dtr ez91 ez93 ?_, dtr ez92 ez94 ?_, dtr ez93 ez94 ?_, dtr ez94 ez95 ?_, dtr ez95 ez96 ?_, trivial⟩
   all_goals simp only [emk, List.cons_append, List.nil_append, List.append_nil, go_sem, seval]
   all_goals repeat' (first | (refine dt_can ?_ rfl; (focus ((repeat' (first | exact True.intro | refine And.intro rfl ?_)); done))) | with_reducible refine And.intro ?_ ?_ | omega | (refine fcall_src (h1) rfl rfl ?_; simp only [go_sem, seval]) | (refine fcall_src (h2) rfl rfl ?_; simp only [go_sem, seval]) | (refine fcall_src (h3) rfl rfl ?_; simp only [go_sem, seval]) | (refine fcall_src (h4) rfl rfl ?_; simp only [go_sem, seval]))
  show ATs _ _ _ _ _ z96
  rw [ez96]
  clear emk ez0 ez1 ez2 ez3 ez4 ez5 ez6 ez7 ez8 ez9 ez10 ez11 ez12 ez13 ez14 ez15 ez16 ez17 ez18 ez19 ez20 ez21 ez22 ez23 ez24 ez25 ez26 ez27 ez28 ez29 ez30 ez31 ez32 ez33 ez34 ez35 ez36 ez37 ez38 ez39 ez40 ez41 ez42 ez43 ez44 ez45 ez46 ez47 ez48 ez49 ez50 ez51 ez52 ez53 ez54 ez55 ez56 ez57 ez58 ez59 ez60 ez61 ez62 ez63 ez64 ez65 ez66 ez67 ez68 ez69 ez70 ez71 ez72 ez73 ez74 ez75 ez76 ez77 ez78 ez79 ez80 ez81 ez82 ez83 ez84 ez85 ez86 ez87 ez88 ez89 ez90 ez91 ez92 ez93 ez94 ez95 ez96
  refine gBN ?_
  refine ats_ret ⟨⟨[(0, .bptr 0 0), (2, .bptr 3 0)], [(0, srcB a4.2), (1, .t1 o), (2, .t3 (W.set i ((W.getD i []).set j (((W.getD i []).getD j []).set k v)))), (3, .bx [.ref 1 [], .int m, .ref 2 []])]⟩, ghost_to [8] [(5, 3)], .inr rfl, (by first | rfl | exact ⟨trivial, rfl⟩ | (simp only [resL, resA, go_sem, seval]; done)), (by simp [St.get, slotGet, argSlots]), rfl⟩
 ·by_cases c1 : c.1 = 1
  ·rw [c1] at hc
   have hQk := pick9_ok c.2 okc [0, 1001, 2] (by decide) (by decide)
   rw [show (([0, 1001, 2] : List Int).length : Int) = 3 from rfl] at hQk
   have okK := nx_ok okc 3
   obtain ⟨q, eq⟩ : ∃ q, nx c.2 3 = q := ⟨_, rfl⟩
   rw [eq] at hQk okK
   obtain ⟨v, ev⟩ : ∃ v, ([0, 1001, 2] : List Int).getD q.1.toNat 0 = v := ⟨_, rfl⟩
   rw [ev] at hQk
   refine ⟨o, v, W, q.2, okK, by omega, by omega, ?_⟩
   refine OwnCall.intro (n := 52) (rs := [.cell 2 30]) 1 [0] (X := [0]) Try.call50 Try.func50 rfl rfl rfl (by simp only [List.length_cons, List.length_nil]; omega) (by simp [Aw.ids, rootsA, rootsAs, argSlots, slotGet]) (fun cx hcx => AT.weakG (ats_of ?_)); simp only [argSlots, Nat.zero_add, Nat.reduceAdd]
   refine gBN ?_
   (repeat refine ats_seq ?_); refine AT.ghost (st' := ⟨[(0, .bptr 0 0), (2, .bptr 5 0)], [(0, srcB s), (5, .bx [.nil, .int 0, .nil])]⟩) (ghost_to [] [(1, 5)]) ?_
   refine gCN fun K hK => ?_
   refine fcall_bx (hD) (k := ?_); simp only [Aw.ids, go_sem, seval]
   refine hK _ ?_; clear hK K
   (repeat refine ats_seq ?_); refine AT.ghost (st' := ⟨[(0, .bptr 0 0), (2, .bptr 5 0), (3, .bptr 8 0)], [(0, srcB s1), (1, .t1 o), (2, .t3 W), (5, .bx [.nil, .int 0, .nil]), (8, .bx [.ref 1 [], .int m, .ref 2 []])]⟩) (ghost_to [3] [(6, 8)]) ?_
   (repeat refine ats_seq ?_); refine ats_go (by first | exact fix0 hcx | exact fix1 hcx rfl | exact fixN hcx rfl) fun K hK => ?_; simp only [go_sem, seval, en]
   (repeat refine aI (hb := ?_))
   refine hK _ ?_; clear hK K
   refine gCN fun K hK => ?_
   refine fcall_src (hc) rfl rfl ?_; simp only [go_sem, seval]
   refine hK _ ?_; clear hK K
   (repeat refine ats_seq ?_); refine AT.ghost (st' := ⟨[(0, .bptr 0 0), (2, .bptr 5 0), (3, .bptr 8 0), (4, .int n), (11, .int 1)], [(0, srcB c.2), (1, .t1 o), (2, .t3 W), (5, .bx [.nil, .int 0, .nil]), (8, .bx [.ref 1 [], .int m, .ref 2 []])]⟩) (ghost_can [] (by simp only [go_sem, seval, AV.int.injEq, AV.bool.injEq, AV.l1.injEq, AV.l2.injEq, AV.l3.injEq]) (by simp only [go_sem, seval])) ?_
   (repeat refine ats_seq ?_); refine ats_block ?_
   refine gBN ?_
   (repeat refine ats_seq ?_); refine ats_no rfl trivial ?_
   refine gBN ?_
   (repeat refine ats_seq ?_); refine ats_yes rfl trivial ?_
   refine gCN fun K hK => ?_
   refine fcall_bx (hQk) (k := ?_); simp only [Aw.ids, go_sem, seval]
   refine hK _ ?_; clear hK K
   refine gBN ?_
   refine ats_ret ⟨⟨[(0, .bptr 0 0), (2, .bptr 3 0)], [(0, srcB q.2), (1, .t1 o), (2, .t3 W), (3, .bx [.ref 1 [], .int v, .ref 2 []])]⟩, ghost_to [8, 9] [(5, 3)], .inr rfl, (by first | rfl | exact ⟨trivial, rfl⟩ | (simp only [resL, resA, go_sem, seval]; done)), (by simp [St.get, slotGet, argSlots]), rfl⟩
  ·by_cases c2 : c.1 = 2
   ·rw [c2] at hc
    have hQk := pick9_ok c.2 okc [0, 2] (by decide) (by decide)
    rw [show (([0, 2] : List Int).length : Int) = 2 from rfl] at hQk
    have okK := nx_ok okc 2
    obtain ⟨q, eq⟩ : ∃ q, nx c.2 2 = q := ⟨_, rfl⟩
    rw [eq] at hQk okK
    obtain ⟨v, ev⟩ : ∃ v, ([0, 2] : List Int).getD q.1.toNat 0 = v := ⟨_, rfl⟩
    rw [ev] at hQk
    refine ⟨o ++ [v], m, W, q.2, okK, by rw [List.length_append, List.length_singleton]; omega, by omega, ?_⟩
    refine OwnCall.intro (n := 52) (rs := [.cell 2 30]) 1 [0] (X := [0]) Try.call50 Try.func50 rfl rfl rfl (by simp only [List.length_cons, List.length_nil]; omega) (by simp [Aw.ids, rootsA, rootsAs, argSlots, slotGet]) (fun cx hcx => AT.weakG (ats_of ?_)); simp only [argSlots, Nat.zero_add, Nat.reduceAdd]
    refine gBN ?_
    (repeat refine ats_seq ?_); refine AT.ghost (st' := ⟨[(0, .bptr 0 0), (2, .bptr 5 0)], [(0, srcB s), (5, .bx [.nil, .int 0, .nil])]⟩) (ghost_to [] [(1, 5)]) ?_
    refine gCN fun K hK => ?_
    refine fcall_bx (hD) (k := ?_); simp only [Aw.ids, go_sem, seval]
    refine hK _ ?_; clear hK K
    (repeat refine ats_seq ?_); refine AT.ghost (st' := ⟨[(0, .bptr 0 0), (2, .bptr 5 0), (3, .bptr 8 0)], [(0, srcB s1), (1, .t1 o), (2, .t3 W), (5, .bx [.nil, .int 0, .nil]), (8, .bx [.ref 1 [], .int m, .ref 2 []])]⟩) (ghost_to [3] [(6, 8)]) ?_
    (repeat refine ats_seq ?_); refine ats_go (by first | exact fix0 hcx | exact fix1 hcx rfl | exact fixN hcx rfl) fun K hK => ?_; simp only [go_sem, seval, en]
    (repeat refine aI (hb := ?_))
    refine hK _ ?_; clear hK K
    refine gCN fun K hK => ?_
    refine fcall_src (hc) rfl rfl ?_; simp only [go_sem, seval]
    refine hK _ ?_; clear hK K
    (repeat refine ats_seq ?_); refine AT.ghost (st' := ⟨[(0, .bptr 0 0), (2, .bptr 5 0), (3, .bptr 8 0), (4, .int n), (11, .int 2)], [(0, srcB c.2), (1, .t1 o), (2, .t3 W), (5, .bx [.nil, .int 0, .nil]), (8, .bx [.ref 1 [], .int m, .ref 2 []])]⟩) (ghost_can [] (by simp only [go_sem, seval, AV.int.injEq, AV.bool.injEq, AV.l1.injEq, AV.l2.injEq, AV.l3.injEq]) (by simp only [go_sem, seval])) ?_
    (repeat refine ats_seq ?_); refine ats_block ?_
    refine gBN ?_
    (repeat refine ats_seq ?_); refine ats_no rfl trivial ?_
    refine gBN ?_
    (repeat refine ats_seq ?_); refine ats_no rfl trivial ?_
    refine gBN ?_
    (repeat refine ats_seq ?_); refine ats_yes rfl trivial ?_
    (repeat refine ats_seq ?_)
    refine ats_plan [4] (.one 2 (.alt 0 (.alt 1 (.alt 3 (.alt 4 (.alt 5 (.alt 6 (.one 7 (.alt 8 .fin .stop)) .stop) .stop) .stop) .stop) (.alt 3 (.alt 1 (.alt 4 (.alt 5 (.alt 6 (.one 7 (.alt 8 .fin .stop)) .stop) .stop) .stop) (.alt 4 (.one 1 (.alt 5 (.alt 6 (.one 7 (.alt 8 .fin .stop)) .stop) .stop)) .stop)) .stop)) (.alt 3 (.alt 0 (.alt 1 (.alt 4 (.alt 5 (.alt 6 (.one 7 (.alt 8 .fin .stop)) .stop) .stop) .stop) (.alt 4 (.one 1 (.alt 5 (.alt 6 (.one 7 (.alt 8 .fin .stop)) .stop) .stop)) .stop)) (.alt 4 (.one 0 (.one 1 (.alt 5 (.alt 6 (.one 7 (.alt 8 .fin .stop)) .stop) .stop))) .stop)) .stop))) ⟨[(0, .bptr 0 0), (2, .bptr 5 0), (3, .bptr 8 0)], [(0, srcB q.2), (9, .t1 [0, 2]), (1, .t1 (o ++ [v])), (2, .t3 W), (5, .bx [.nil, .int 0, .nil]), (8, .bx [.ref 1 [], .int m, .ref 2 []]), (10, .t1 [v])]⟩ (by first | exact fix0 hcx | exact fixN hcx rfl) mixed (by kernel_rfl) (fun K hK => ?_) ?_
    ·simp only [go_sem, seval, Option.getD_some, and_true, true_and, and_self, List.contains_cons, List.contains_nil, Bool.or_false, Bool.or_true]
     repeat' (first | exact hK _ (by refine And.intro ?_ rfl; simp only [leS, Nat.reduceEqDiff, ↓reduceIte, true_and, and_true])  | with_reducible refine And.intro ?_ ?_ | omega | (refine fcall_box (hQk) (by simp [Aw.ids]) (by simp [find]) (by simp [closedT, killT_e, killAs, killA, outQ, Aw.ids]) (by simp [killAs, killA, outQ, Aw.ids]) (by simp [Aw.ids]) ?_; simp only [Aw.ids, List.map_cons, List.map_nil, List.filter_cons, List.filter_nil, List.contains_cons, List.contains_nil, Bool.or_false, Bool.or_true, Bool.not_true, Bool.not_false, Nat.reduceBEq, Bool.false_eq_true, if_true, if_false, List.cons_append, List.nil_append]; simp only [go_sem, seval, Option.getD_some, and_true, true_and, and_self, List.contains_cons, List.contains_nil, Bool.or_false, Bool.or_true]))
    refine gBN ?_
    refine ats_ret ⟨⟨[(0, .bptr 0 0), (2, .bptr 3 0)], [(0, srcB q.2), (1, .t1 (o ++ [v])), (2, .t3 W), (3, .bx [.ref 1 [], .int m, .ref 2 []])]⟩, ghost_to [8, 9, 10] [(5, 3)], .inr rfl, (by first | rfl | exact ⟨trivial, rfl⟩ | (simp only [resL, resA, go_sem, seval]; done)), (by simp [St.get, slotGet, argSlots]), rfl⟩
   ·refine ⟨o, m, W, c.2, okc, by omega, by omega, ?_⟩
    obtain ⟨d, ed⟩ : ∃ d, c.1 = d := ⟨_, rfl⟩
    rw [ed] at hc c0 c1 c2
    refine OwnCall.intro (n := 52) (rs := [.cell 2 30]) 1 [0] (X := [0]) Try.call50 Try.func50 rfl rfl rfl (by simp only [List.length_cons, List.length_nil]; omega) (by simp [Aw.ids, rootsA, rootsAs, argSlots, slotGet]) (fun cx hcx => AT.weakG (ats_of ?_)); simp only [argSlots, Nat.zero_add, Nat.reduceAdd]
    refine gBN ?_
    (repeat refine ats_seq ?_); refine AT.ghost (st' := ⟨[(0, .bptr 0 0), (2, .bptr 5 0)], [(0, srcB s), (5, .bx [.nil, .int 0, .nil])]⟩) (ghost_to [] [(1, 5)]) ?_
    refine gCN fun K hK => ?_
    refine fcall_bx (hD) (k := ?_); simp only [Aw.ids, go_sem, seval]
    refine hK _ ?_; clear hK K
    (repeat refine ats_seq ?_); refine AT.ghost (st' := ⟨[(0, .bptr 0 0), (2, .bptr 5 0), (3, .bptr 8 0)], [(0, srcB s1), (1, .t1 o), (2, .t3 W), (5, .bx [.nil, .int 0, .nil]), (8, .bx [.ref 1 [], .int m, .ref 2 []])]⟩) (ghost_to [3] [(6, 8)]) ?_
    (repeat refine ats_seq ?_); refine ats_go (by first | exact fix0 hcx | exact fix1 hcx rfl | exact fixN hcx rfl) fun K hK => ?_; simp only [go_sem, seval, en]
    (repeat refine aI (hb := ?_))
    refine hK _ ?_; clear hK K
    refine gCN fun K hK => ?_
    refine fcall_src (hc) rfl rfl ?_; simp only [go_sem, seval]
    refine hK _ ?_; clear hK K
    (repeat refine ats_seq ?_); refine AT.ghost (st' := ⟨[(0, .bptr 0 0), (2, .bptr 5 0), (3, .bptr 8 0), (4, .int n), (11, .int d)], [(0, srcB c.2), (1, .t1 o), (2, .t3 W), (5, .bx [.nil, .int 0, .nil]), (8, .bx [.ref 1 [], .int m, .ref 2 []])]⟩) (ghost_can [] (by simp only [go_sem, seval, AV.int.injEq, AV.bool.injEq, AV.l1.injEq, AV.l2.injEq, AV.l3.injEq]) (by simp only [go_sem, seval])) ?_
    (repeat refine ats_seq ?_); refine ats_block ?_
    refine gBN ?_
    refine gI (fun g0 => ?_) fun g0 => ?_
    ·exact absurd g0 c0
    ·refine gBN ?_
     refine gI (fun g1 => ?_) fun g1 => ?_
     ·exact absurd g1 c1
     ·refine gBN ?_
      refine gI (fun g2 => ?_) fun g2 => ?_
      ·exact absurd g2 c2
      ·refine ats_skip ?_
       refine gBN ?_
       refine ats_ret ⟨⟨[(0, .bptr 0 0), (2, .bptr 3 0)], [(0, srcB c.2), (1, .t1 o), (2, .t3 W), (3, .bx [.ref 1 [], .int m, .ref 2 []])]⟩, ghost_to [8] [(5, 3)], .inr rfl, (by first | rfl | exact ⟨trivial, rfl⟩ | (simp only [resL, resA, go_sem, seval]; done)), (by simp [St.get, slotGet, argSlots]), rfl⟩
set_option maxRecDepth 100000 in
set_option maxHeartbeats 4000000 in
theorem DrawIsCocycle_ok (c : List Int) (hl : c.length ≤ 1048576) (hb : ∀ i, i < c.length → 0 ≤ c.getD i 0 ∧ c.getD i 0 ≤ 255) : ∃ (o : List Int) (m : Int) (W : List (List (List Int))), o.length ≤ 11 ∧ W.length ≤ 8 ∧ PureCall Try.prog 44 [.lv (bsV c)] (.agg [.l1 o, .int m, .l3 W]) := by
 have hF := from_ok c hl hb
 have ok0 := frS_ok hl hb
 generalize frS c = s at *
 obtain ⟨o, m, W, s1, _, lo, lW, hA⟩ := l17DrawAny_ok s ok0
 unfold DrC at hA
 refine ⟨o, m, W, lo, lW, ?_⟩
 refine PureCall.introR (n := 6) (rs := [.cell 2 30]) Try.call44 Try.func44 rfl rfl rfl (by simp only [List.length_cons, List.length_nil]; omega) (fun cx hcx hrd => ats_of ?_); simp only [argSlots, Nat.zero_add, Nat.reduceAdd]
 refine gBN ?_
 (repeat refine ats_seq ?_); refine AT.ghost (st' := ⟨[(0, .lv (bsV c)), (2, .bptr 7 0)], [(7, .bx [.nil, .int 0, .nil])]⟩) (ghost_to [] [(0, 7)]) ?_
 refine gCN fun K hK => ?_
 refine fcall_bx (hF) (k := ?_); simp only [Aw.ids, go_sem, seval]
 refine fcall_bx (hA) (k := ?_); simp only [Aw.ids, go_sem, seval]
 refine hK _ ?_; clear hK K
 exact ats_ret (finC (v := .agg [.ref 1 [], .int m, .ref 2 []]) (by simp only [go_sem, seval]) rfl)
theorem DrawIsCoboundary_ok (c : List Int) (hl : c.length ≤ 1048576) (hb : ∀ i, i < c.length → 0 ≤ c.getD i 0 ∧ c.getD i 0 ≤ 255) : ∃ (o : List Int) (m : Int) (W : List (List (List Int))), o.length ≤ 11 ∧ W.length ≤ 8 ∧ PureCall Try.prog 14 [.lv (bsV c)] (.agg [.l1 o, .int m, .l3 W]) := by
 obtain ⟨o, m, W, lo, lW, hA⟩ := DrawIsCocycle_ok c hl hb
 refine ⟨o, m, W, lo, lW, ?_⟩
 refine PureCall.intro (n := 5) (rs := [.cell 2 30]) Try.call14 Try.func14 rfl rfl rfl (by simp only [List.length_cons, List.length_nil]; omega) (fun cx hcx => ats_of ?_); simp only [argSlots, Nat.zero_add, Nat.reduceAdd]
 refine gBN ?_
 refine gCN fun K hK => ?_
 refine fcall_data (hA) (by first | rfl | simp only [areData, Aw.isData, areData_bsV, Bool.and_true]) ?_; simp only [go_sem, seval]
 refine hK _ ?_; clear hK K
 exact ats_ret (finC (v := .agg [.l1 o, .int m, .l3 W]) (by simp only [go_sem, seval]) rfl)
set_option maxRecDepth 100000 in
set_option maxHeartbeats 4000000 in
theorem DrawSlantOf_ok (c : List Int) (hl : c.length ≤ 1048576) (hb : ∀ i, i < c.length → 0 ≤ c.getD i 0 ∧ c.getD i 0 ≤ 255) : ∃ (o : List Int) (m : Int) (W : List (List (List Int))) (x : Int), o.length ≤ 11 ∧ W.length ≤ 8 ∧ PureCall Try.prog 16 [.lv (bsV c)] (.tup [.agg [.l1 o, .int m, .l3 W], .int x]) := by
 have hF := from_ok c hl hb
 have ok0 := frS_ok hl hb
 generalize frS c = s at *
 obtain ⟨o, m, W, s1, ok1, lo, lW, hA⟩ := l17DrawAny_ok s ok0
 unfold DrC at hA
 have hN := next_ok s1 ok1 24 (by omega)
 have b1 := nx_bd s1 (n := 24) (by omega)
 have ok2 := nx_ok ok1 24
 generalize nx s1 24 = q at *
 have ed : q.1.tdiv 23 = q.1 / 23 := Int.tdiv_eq_ediv_of_nonneg (by omega)
 have hM := next_ok q.2 ok2 (W.length + q.1 / 23) (by omega)
 generalize nx q.2 (W.length + q.1 / 23) = r at *
 refine ⟨o, m, W, r.1, lo, lW, ?_⟩
 refine PureCall.introR (n := 20) (rs := [.cell 2 30, .tmp 3]) Try.call16 Try.func16 rfl rfl rfl (by simp only [List.length_cons, List.length_nil]; omega) (fun cx hcx hrd => ats_of ?_); simp only [argSlots, Nat.zero_add, Nat.reduceAdd]
 refine gBN ?_
 (repeat refine ats_seq ?_); refine AT.ghost (st' := ⟨[(0, .lv (bsV c)), (2, .bptr 7 0), (3, .int 0)], [(7, .bx [.nil, .int 0, .nil])]⟩) (ghost_to [] [(0, 7)]) ?_
 refine gCN fun K hK => ?_
 refine fcall_bx (hF) (k := ?_); simp only [Aw.ids, go_sem, seval]
 refine hK _ ?_; clear hK K
 refine gCN fun K hK => ?_
 refine fcall_bx (hA) (k := ?_); simp only [Aw.ids, go_sem, seval]
 refine hK _ ?_; clear hK K
 (repeat refine ats_seq ?_); refine AT.ghost (st' := ⟨[(2, .bptr 7 0), (3, .int 0), (4, .bptr 0 0), (5, .bptr 8 0)], [(0, srcB s1), (1, .t1 o), (2, .t3 W), (7, .bx [.nil, .int 0, .nil]), (8, .bx [.ref 1 [], .int m, .ref 2 []])]⟩) (ghost_to [3] []) ?_
 (repeat refine ats_seq ?_)
 obtain ⟨mk, emk⟩ : ∃ mk : List (Nat × AV) → List (Nat × Tree) → St, mk = fun s h => ⟨[(2, .bptr 7 0), (3, .int 0)] ++ s, h ++ [(1, .t1 o), (2, .t3 W), (8, .bx [.ref 1 [], .int m, .ref 2 []])]⟩ := ⟨_, rfl⟩
 obtain ⟨z0, ez0⟩ : ∃ z, z = (⟨[(2, .bptr 7 0), (3, .int 0), (5, .bptr 8 0), (11, .bptr 0 0), (15, .bptr 0 0)], [(0, srcB s1), (1, .t1 o), (2, .t3 W), (7, .bx [.nil, .int 0, .nil]), (8, .bx [.ref 1 [], .int m, .ref 2 []])]⟩ : St) := ⟨_, rfl⟩
 obtain ⟨z1, ez1⟩ : ∃ z, z = (⟨[(2, .bptr 7 0), (3, .int 0), (5, .bptr 8 0), (10, .agg [.ref 1 [], .int m, .ref 2 []]), (11, .bptr 0 0), (15, .bptr 0 0)], [(0, srcB s1), (1, .t1 o), (2, .t3 W), (7, .bx [.nil, .int 0, .nil]), (8, .bx [.ref 1 [], .int m, .ref 2 []])]⟩ : St) := ⟨_, rfl⟩
 obtain ⟨z2, ez2⟩ : ∃ z, z = (⟨[(2, .bptr 7 0), (3, .int 0), (5, .bptr 8 0), (11, .bptr 0 0), (12, .bptr 8 2), (15, .bptr 0 0)], [(0, srcB s1), (1, .t1 o), (2, .t3 W), (7, .bx [.nil, .int 0, .nil]), (8, .bx [.ref 1 [], .int m, .ref 2 []])]⟩ : St) := ⟨_, rfl⟩
 obtain ⟨z3, ez3⟩ : ∃ z, z = (⟨[(2, .bptr 7 0), (3, .int 0), (5, .bptr 8 0), (11, .bptr 0 0), (16, .int q.1)], [(0, srcB q.2), (1, .t1 o), (2, .t3 W), (7, .bx [.nil, .int 0, .nil]), (8, .bx [.ref 1 [], .int m, .ref 2 []])]⟩ : St) := ⟨_, rfl⟩
 obtain ⟨z4, ez4⟩ : ∃ z, z = (⟨[(2, .bptr 7 0), (3, .int 0), (10, .agg [.ref 1 [], .int m, .ref 2 []]), (11, .bptr 0 0), (12, .bptr 8 2), (15, .bptr 0 0)], [(0, srcB s1), (1, .t1 o), (2, .t3 W), (7, .bx [.nil, .int 0, .nil]), (8, .bx [.ref 1 [], .int m, .ref 2 []])]⟩ : St) := ⟨_, rfl⟩
 obtain ⟨z5, ez5⟩ : ∃ z, z = (⟨[(2, .bptr 7 0), (3, .int 0), (5, .bptr 8 0), (10, .agg [.ref 1 [], .int m, .ref 2 []]), (11, .bptr 0 0), (16, .int q.1)], [(0, srcB q.2), (1, .t1 o), (2, .t3 W), (7, .bx [.nil, .int 0, .nil]), (8, .bx [.ref 1 [], .int m, .ref 2 []])]⟩ : St) := ⟨_, rfl⟩
 obtain ⟨z6, ez6⟩ : ∃ z, z = (⟨[(2, .bptr 7 0), (3, .int 0), (5, .bptr 8 0), (11, .bptr 0 0), (13, .ref 2 []), (15, .bptr 0 0)], [(0, srcB s1), (1, .t1 o), (2, .t3 W), (7, .bx [.nil, .int 0, .nil]), (8, .bx [.ref 1 [], .int m, .ref 2 []])]⟩ : St) := ⟨_, rfl⟩
 obtain ⟨z7, ez7⟩ : ∃ z, z = (⟨[(2, .bptr 7 0), (3, .int 0), (5, .bptr 8 0), (11, .bptr 0 0), (12, .bptr 8 2), (16, .int q.1)], [(0, srcB q.2), (1, .t1 o), (2, .t3 W), (7, .bx [.nil, .int 0, .nil]), (8, .bx [.ref 1 [], .int m, .ref 2 []])]⟩ : St) := ⟨_, rfl⟩
 obtain ⟨z8, ez8⟩ : ∃ z, z = (⟨[(2, .bptr 7 0), (3, .int 0), (5, .bptr 8 0), (11, .bptr 0 0), (17, .int (q.1 / 23))], [(0, srcB q.2), (1, .t1 o), (2, .t3 W), (7, .bx [.nil, .int 0, .nil]), (8, .bx [.ref 1 [], .int m, .ref 2 []])]⟩ : St) := ⟨_, rfl⟩
 obtain ⟨z9, ez9⟩ : ∃ z, z = (⟨[(2, .bptr 7 0), (3, .int 0), (10, .agg [.ref 1 [], .int m, .ref 2 []]), (11, .bptr 0 0), (13, .ref 2 []), (15, .bptr 0 0)], [(0, srcB s1), (1, .t1 o), (2, .t3 W), (7, .bx [.nil, .int 0, .nil]), (8, .bx [.ref 1 [], .int m, .ref 2 []])]⟩ : St) := ⟨_, rfl⟩
 obtain ⟨z10, ez10⟩ : ∃ z, z = (⟨[(2, .bptr 7 0), (3, .int 0), (10, .agg [.ref 1 [], .int m, .ref 2 []]), (11, .bptr 0 0), (12, .bptr 8 2), (16, .int q.1)], [(0, srcB q.2), (1, .t1 o), (2, .t3 W), (7, .bx [.nil, .int 0, .nil]), (8, .bx [.ref 1 [], .int m, .ref 2 []])]⟩ : St) := ⟨_, rfl⟩
 obtain ⟨z11, ez11⟩ : ∃ z, z = (⟨[(2, .bptr 7 0), (3, .int 0), (5, .bptr 8 0), (10, .agg [.ref 1 [], .int m, .ref 2 []]), (11, .bptr 0 0), (17, .int (q.1 / 23))], [(0, srcB q.2), (1, .t1 o), (2, .t3 W), (7, .bx [.nil, .int 0, .nil]), (8, .bx [.ref 1 [], .int m, .ref 2 []])]⟩ : St) := ⟨_, rfl⟩
 obtain ⟨z12, ez12⟩ : ∃ z, z = (⟨[(2, .bptr 7 0), (3, .int 0), (5, .bptr 8 0), (11, .bptr 0 0), (14, .int W.length), (15, .bptr 0 0)], [(0, srcB s1), (1, .t1 o), (2, .t3 W), (7, .bx [.nil, .int 0, .nil]), (8, .bx [.ref 1 [], .int m, .ref 2 []])]⟩ : St) := ⟨_, rfl⟩
 obtain ⟨z13, ez13⟩ : ∃ z, z = (⟨[(2, .bptr 7 0), (3, .int 0), (5, .bptr 8 0), (11, .bptr 0 0), (13, .ref 2 []), (16, .int q.1)], [(0, srcB q.2), (1, .t1 o), (2, .t3 W), (7, .bx [.nil, .int 0, .nil]), (8, .bx [.ref 1 [], .int m, .ref 2 []])]⟩ : St) := ⟨_, rfl⟩
 obtain ⟨z14, ez14⟩ : ∃ z, z = (⟨[(2, .bptr 7 0), (3, .int 0), (5, .bptr 8 0), (11, .bptr 0 0), (12, .bptr 8 2), (17, .int (q.1 / 23))], [(0, srcB q.2), (1, .t1 o), (2, .t3 W), (7, .bx [.nil, .int 0, .nil]), (8, .bx [.ref 1 [], .int m, .ref 2 []])]⟩ : St) := ⟨_, rfl⟩
 obtain ⟨z15, ez15⟩ : ∃ z, z = (⟨[(2, .bptr 7 0), (3, .int 0), (10, .agg [.ref 1 [], .int m, .ref 2 []]), (11, .bptr 0 0), (14, .int W.length), (15, .bptr 0 0)], [(0, srcB s1), (1, .t1 o), (2, .t3 W), (7, .bx [.nil, .int 0, .nil]), (8, .bx [.ref 1 [], .int m, .ref 2 []])]⟩ : St) := ⟨_, rfl⟩
 obtain ⟨z16, ez16⟩ : ∃ z, z = (⟨[(2, .bptr 7 0), (3, .int 0), (10, .agg [.ref 1 [], .int m, .ref 2 []]), (11, .bptr 0 0), (13, .ref 2 []), (16, .int q.1)], [(0, srcB q.2), (1, .t1 o), (2, .t3 W), (7, .bx [.nil, .int 0, .nil]), (8, .bx [.ref 1 [], .int m, .ref 2 []])]⟩ : St) := ⟨_, rfl⟩
 obtain ⟨z17, ez17⟩ : ∃ z, z = (⟨[(2, .bptr 7 0), (3, .int 0), (10, .agg [.ref 1 [], .int m, .ref 2 []]), (11, .bptr 0 0), (12, .bptr 8 2), (17, .int (q.1 / 23))], [(0, srcB q.2), (1, .t1 o), (2, .t3 W), (7, .bx [.nil, .int 0, .nil]), (8, .bx [.ref 1 [], .int m, .ref 2 []])]⟩ : St) := ⟨_, rfl⟩
 obtain ⟨z18, ez18⟩ : ∃ z, z = (⟨[(2, .bptr 7 0), (3, .int 0), (5, .bptr 8 0), (11, .bptr 0 0), (14, .int W.length), (16, .int q.1)], [(0, srcB q.2), (1, .t1 o), (2, .t3 W), (7, .bx [.nil, .int 0, .nil]), (8, .bx [.ref 1 [], .int m, .ref 2 []])]⟩ : St) := ⟨_, rfl⟩
 obtain ⟨z19, ez19⟩ : ∃ z, z = (⟨[(2, .bptr 7 0), (3, .int 0), (5, .bptr 8 0), (11, .bptr 0 0), (13, .ref 2 []), (17, .int (q.1 / 23))], [(0, srcB q.2), (1, .t1 o), (2, .t3 W), (7, .bx [.nil, .int 0, .nil]), (8, .bx [.ref 1 [], .int m, .ref 2 []])]⟩ : St) := ⟨_, rfl⟩
 obtain ⟨z20, ez20⟩ : ∃ z, z = (⟨[(2, .bptr 7 0), (3, .int 0), (10, .agg [.ref 1 [], .int m, .ref 2 []]), (11, .bptr 0 0), (14, .int W.length), (16, .int q.1)], [(0, srcB q.2), (1, .t1 o), (2, .t3 W), (7, .bx [.nil, .int 0, .nil]), (8, .bx [.ref 1 [], .int m, .ref 2 []])]⟩ : St) := ⟨_, rfl⟩
 obtain ⟨z21, ez21⟩ : ∃ z, z = (⟨[(2, .bptr 7 0), (3, .int 0), (10, .agg [.ref 1 [], .int m, .ref 2 []]), (11, .bptr 0 0), (13, .ref 2 []), (17, .int (q.1 / 23))], [(0, srcB q.2), (1, .t1 o), (2, .t3 W), (7, .bx [.nil, .int 0, .nil]), (8, .bx [.ref 1 [], .int m, .ref 2 []])]⟩ : St) := ⟨_, rfl⟩
 obtain ⟨z22, ez22⟩ : ∃ z, z = (⟨[(2, .bptr 7 0), (3, .int 0), (5, .bptr 8 0), (11, .bptr 0 0), (14, .int W.length), (17, .int (q.1 / 23))], [(0, srcB q.2), (1, .t1 o), (2, .t3 W), (7, .bx [.nil, .int 0, .nil]), (8, .bx [.ref 1 [], .int m, .ref 2 []])]⟩ : St) := ⟨_, rfl⟩
 obtain ⟨z23, ez23⟩ : ∃ z, z = (⟨[(2, .bptr 7 0), (3, .int 0), (10, .agg [.ref 1 [], .int m, .ref 2 []]), (11, .bptr 0 0), (14, .int W.length), (17, .int (q.1 / 23))], [(0, srcB q.2), (1, .t1 o), (2, .t3 W), (7, .bx [.nil, .int 0, .nil]), (8, .bx [.ref 1 [], .int m, .ref 2 []])]⟩ : St) := ⟨_, rfl⟩
 obtain ⟨z24, ez24⟩ : ∃ z, z = (⟨[(2, .bptr 7 0), (3, .int 0), (5, .bptr 8 0), (11, .bptr 0 0), (18, .int (W.length + q.1 / 23))], [(0, srcB q.2), (1, .t1 o), (2, .t3 W), (7, .bx [.nil, .int 0, .nil]), (8, .bx [.ref 1 [], .int m, .ref 2 []])]⟩ : St) := ⟨_, rfl⟩
 obtain ⟨z25, ez25⟩ : ∃ z, z = (⟨[(2, .bptr 7 0), (3, .int 0), (10, .agg [.ref 1 [], .int m, .ref 2 []]), (11, .bptr 0 0), (18, .int (W.length + q.1 / 23))], [(0, srcB q.2), (1, .t1 o), (2, .t3 W), (7, .bx [.nil, .int 0, .nil]), (8, .bx [.ref 1 [], .int m, .ref 2 []])]⟩ : St) := ⟨_, rfl⟩
 obtain ⟨z26, ez26⟩ : ∃ z, z = (⟨[(2, .bptr 7 0), (3, .int 0), (5, .bptr 8 0), (19, .int r.1)], [(0, srcB r.2), (1, .t1 o), (2, .t3 W), (7, .bx [.nil, .int 0, .nil]), (8, .bx [.ref 1 [], .int m, .ref 2 []])]⟩ : St) := ⟨_, rfl⟩
 obtain ⟨z27, ez27⟩ : ∃ z, z = (⟨[(2, .bptr 7 0), (3, .int 0), (10, .agg [.ref 1 [], .int m, .ref 2 []]), (19, .int r.1)], [(0, srcB r.2), (1, .t1 o), (2, .t3 W), (7, .bx [.nil, .int 0, .nil]), (8, .bx [.ref 1 [], .int m, .ref 2 []])]⟩ : St) := ⟨_, rfl⟩
 obtain ⟨z28, ez28⟩ : ∃ z, z = (⟨[(2, .bptr 7 0), (3, .int 0), (19, .int r.1)], [(0, srcB r.2), (1, .t1 o), (2, .t3 W), (7, .bx [.ref 1 [], .int m, .ref 2 []]), (8, .bx [.ref 1 [], .int m, .ref 2 []])]⟩ : St) := ⟨_, rfl⟩
 obtain ⟨z29, ez29⟩ : ∃ z, z = (⟨[(2, .bptr 7 0), (3, .int r.1)], [(0, srcB r.2), (1, .t1 o), (2, .t3 W), (7, .bx [.ref 1 [], .int m, .ref 2 []]), (8, .bx [.ref 1 [], .int m, .ref 2 []])]⟩ : St) := ⟨_, rfl⟩
 refine ats_table [6, 9] [1, 5] [[1, 5], [0, 1, 5], [1, 2, 5], [1, 5, 6], [0, 1, 2, 5], [0, 1, 5, 6], [1, 2, 3, 5], [1, 2, 5, 6], [1, 5, 6, 7], [0, 1, 2, 3, 5], [0, 1, 2, 5, 6], [0, 1, 5, 6, 7], [1, 2, 3, 4, 5], [1, 2, 3, 5, 6], [1, 2, 5, 6, 7], [0, 1, 2, 3, 4, 5], [0, 1, 2, 3, 5, 6], [0, 1, 2, 5, 6, 7], [1, 2, 3, 4, 5, 6], [1, 2, 3, 5, 6, 7], [0, 1, 2, 3, 4, 5, 6], [0, 1, 2, 3, 5, 6, 7], [1, 2, 3, 4, 5, 6, 7], [0, 1, 2, 3, 4, 5, 6, 7], [1, 2, 3, 4, 5, 6, 7, 8], [0, 1, 2, 3, 4, 5, 6, 7, 8], [1, 2, 3, 4, 5, 6, 7, 8, 9], [0, 1, 2, 3, 4, 5, 6, 7, 8, 9], [0, 1, 2, 3, 4, 5, 6, 7, 8, 9, 10], [0, 1, 2, 3, 4, 5, 6, 7, 8, 9, 10, 11]] [(0, 0, 1), (0, 2, 2), (0, 6, 3), (1, 2, 4), (1, 6, 5), (2, 0, 4), (2, 3, 6), (2, 6, 7), (3, 0, 5), (3, 2, 7), (3, 7, 8), (4, 3, 9), (4, 6, 10), (5, 2, 10), (5, 7, 11), (6, 0, 9), (6, 4, 12), (6, 6, 13), (7, 0, 10), (7, 3, 13), (7, 7, 14), (8, 0, 11), (8, 2, 14), (9, 4, 15), (9, 6, 16), (10, 3, 16), (10, 7, 17), (11, 2, 17), (12, 0, 15), (12, 6, 18), (13, 0, 16), (13, 4, 18), (13, 7, 19), (14, 0, 17), (14, 3, 19), (15, 6, 20), (16, 4, 20), (16, 7, 21), (17, 3, 21), (18, 0, 20), (18, 7, 22), (19, 0, 21), (19, 4, 22), (20, 7, 23), (21, 4, 23), (22, 0, 23), (22, 8, 24), (23, 8, 25), (24, 0, 25), (24, 9, 26), (25, 9, 27), (26, 0, 27), (27, 10, 28), (28, 11, 29)] [z0, z1, z2, z3, z4, z5, z6, z7, z8, z9, z10, z11, z12, z13, z14, z15, z16, z17, z18, z19, z20, z21, z22, z23, z24, z25, z26, z27, z28, z29] hrd (by first | exact fix0 hcx | exact fix1 hcx rfl | exact fixN hcx rfl) mixed (by kernel_rfl) ?_ ?_ ?_
 ·show mvTRun _ _ _ _ _ _ (fun s => Ghost _ _ s z0)
  rw [ez0]; simp only [go_sem, seval]; repeat' (first | (refine dt_can ?_ rfl; (focus ((repeat' (first | exact True.intro | refine And.intro rfl ?_)); done))) | with_reducible refine And.intro ?_ ?_ | omega)
 ·refine ⟨dtr ez0 ez1 ?_, dtr ez0 ez2 ?_, dtr ez0 ez3 ?_, dtr ez1 ez4 ?_, dtr ez1 ez5 ?_, dtr ez2 ez4 ?_, dtr ez2 ez6 ?_, dtr ez2 ez7 ?_, dtr ez3 ez5 ?_, dtr ez3 ez7 ?_, dtr ez3 ez8 ?_, dtr ez4 ez9 ?_, dtr ez4 ez10 ?_, dtr ez5 ez10 ?_, dtr ez5 ez11 ?_, dtr ez6 ez9 ?_, dtr ez6 ez12 ?_, dtr ez6 ez13 ?_, dtr ez7 ez10 ?_, dtr ez7 ez13 ?_, dtr ez7 ez14 ?_, dtr ez8 ez11 ?_, dtr ez8 ez14 ?_, dtr ez9 ez15 ?_, dtr ez9 ez16 ?_, dtr ez10 ez16 ?_, dtr ez10 ez17 ?_, dtr ez11 ez17 ?_, dtr ez12 ez15 ?_, dtr ez12 ez18 ?_, dtr ez13 ez16 ?_, dtr ez13 ez18 ?_, dtr ez13 ez19 ?_, dtr ez14 ez17 ?_, dtr ez14 ez19 ?_, dtr ez15 ez20 ?_, dtr ez16 ez20 ?_, dtr ez16 ez21 ?_, dtr ez17 ez21 ?_, dtr ez18 ez20 ?_, dtr ez18 ez22 ?_, dtr ez19 ez21 ?_, dtr ez19 ez22 ?_, dtr ez20 ez23 ?_, dtr ez21 ez23 ?_, dtr ez22 ez23 ?_, dtr ez22 ez24 ?_, dtr ez23 ez25 ?_, dtr ez24 ez25 ?_, dtr ez24 ez26 ?_, dtr ez25 ez27 ?_, dtr ez26 ez27 ?_, dtr ez27 ez28 ?_, dtr ez28 ez29 ?_, trivial⟩
  all_goals simp only [emk, List.cons_append, List.nil_append, List.append_nil, go_sem, seval]
  all_goals repeat' (first | (refine dt_can ?_ rfl; (focus ((repeat' (first | exact True.intro | refine And.intro rfl ?_)); done))) | with_reducible refine And.intro ?_ ?_ | omega | (refine fcall_src (hN) rfl rfl ?_; simp only [go_sem, seval]) | (refine fcall_src (hM) rfl rfl ?_; simp only [go_sem, seval]) | ((simp only [ed])))
 show ATs _ _ _ _ _ z29
 rw [ez29]
 clear emk ez0 ez1 ez2 ez3 ez4 ez5 ez6 ez7 ez8 ez9 ez10 ez11 ez12 ez13 ez14 ez15 ez16 ez17 ez18 ez19 ez20 ez21 ez22 ez23 ez24 ez25 ez26 ez27 ez28 ez29
 exact ats_ret (fin2C (v := .agg [.ref 1 [], .int m, .ref 2 []]) (by simp only [go_sem, seval]) trivial rfl)
set_option maxRecDepth 100000 in
set_option maxHeartbeats 8000000 in
theorem DrawCoboundaryOf_ok (c : List Int) (hl : c.length ≤ 1048576) (hb : ∀ i, i < c.length → 0 ≤ c.getD i 0 ∧ c.getD i 0 ≤ 255) : ∃ (o : List Int) (m : Int) (f : List (List Int)), o.length ≤ 11 ∧ PureCall Try.prog 5 [.lv (bsV c)] (.tup [.l1 o, .int m, .l2 f]) := by
 have hF := from_ok c hl hb
 have ok0 := frS_ok hl hb
 generalize frS c = s at *
 have hO : OwnCall Try.prog 22 [.bptr 0 0, .int 8] [(0, srcB s)] [(0, srcB (dOrd s 8).2), (1, .t1 (dOrd s 8).1)] (.ref 1 []) [0] := l06DrawOrders_ok s ok0 8 (by omega) (by omega)
 obtain ⟨hp, h8, j, _, _, mv⟩ := dOrd_fact ok0 (most := 8) (by omega)
 have lo := ord_len s 8
 have okO := mv.ok ok0
 obtain ⟨d, ed⟩ : ∃ d, dOrd s 8 = d := ⟨_, rfl⟩
 rw [ed] at hO hp h8 lo okO
 have hS := l17Size_ok d.1 hp
 obtain ⟨n, hn⟩ : ∃ n : Nat, (n : Int) = prodO d.1 := ⟨(prodO d.1).toNat, by have := prodO_pos hp; omega⟩
 have n1 := prodO_pos hp
 rw [siz8_n h8 hn] at hS
 have hQk := pick2_ok d.2 okO [1, 2, 3, 4, 6, 60, 1000, 1001, 0] (by decide) (by decide)
 rw [show (([1, 2, 3, 4, 6, 60, 1000, 1001, 0] : List Int).length : Int) = 9 from rfl] at hQk
 have okK := nx_ok okO 9
 have bK := nx_bd d.2 (n := 9) (by omega)
 obtain ⟨q, eq⟩ : ∃ q, nx d.2 9 = q := ⟨_, rfl⟩
 rw [eq] at hQk okK bK
 have hm : ([1, 2, 3, 4, 6, 60, 1000, 1001, 0] : List Int).getD q.1.toNat 0 ≤ 2000 := by
  have h7 : q.1.toNat < 9 := by omega
  have : ∀ i, i < 9 → ([1, 2, 3, 4, 6, 60, 1000, 1001, 0] : List Int).getD i 0 ≤ 2000 := by decide
  exact this _ h7
 obtain ⟨m, em⟩ : ∃ m, ([1, 2, 3, 4, 6, 60, 1000, 1001, 0] : List Int).getD q.1.toNat 0 = m := ⟨_, rfl⟩
 rw [em] at hQk hm
 have hP := drawPairing_ok q.2 okK n m (by omega) hm
 obtain ⟨pk, lp, _⟩ := pMat_fact (n := n) (m := m) okK n
 obtain ⟨p, ep⟩ : ∃ p, pMat n m n q.2 = p := ⟨_, rfl⟩
 rw [ep] at hP pk lp
 have hc := next_ok p.2 pk 20 (by omega)
 have okc := nx_ok pk 20
 obtain ⟨a, ea⟩ : ∃ a, nx p.2 20 = a := ⟨_, rfl⟩
 rw [ea] at hc okc
 by_cases c0 : a.1 = 0
 ·rw [c0] at hc
  have hQ := pick9_ok a.2 okc [0, 9] (by decide) (by decide)
  rw [show (([0, 9] : List Int).length : Int) = 2 from rfl] at hQ
  obtain ⟨u, eu⟩ : ∃ u, nx a.2 2 = u := ⟨_, rfl⟩
  rw [eu] at hQ
  obtain ⟨v, ev⟩ : ∃ v, ([0, 9] : List Int).getD u.1.toNat 0 = v := ⟨_, rfl⟩
  rw [ev] at hQ
  refine ⟨d.1 ++ [v], m, p.1, by rw [List.length_append, List.length_singleton]; omega, ?_⟩
  refine PureCall.introR (n := 44) (rs := [.tmp 2, .tmp 3, .tmp 4]) Try.call5 Try.func5 rfl rfl rfl (by simp only [List.length_cons, List.length_nil]; omega) (fun cx hcx hrd => ats_of ?_); simp only [argSlots, Nat.zero_add, Nat.reduceAdd]
  refine gBN ?_
  refine gCN fun K hK => ?_
  refine fcall_bx (hF) (k := ?_); simp only [Aw.ids, go_sem, seval]
  refine hK _ ?_; clear hK K
  refine gCN fun K hK => ?_
  refine fcall_bx (hO) (k := ?_); simp only [Aw.ids, go_sem, seval]
  refine hK _ ?_; clear hK K
  refine gCN fun K hK => ?_
  refine fcall_bx (hQk) (k := ?_); simp only [Aw.ids, go_sem, seval]
  refine hK _ ?_; clear hK K
  (repeat refine ats_seq ?_); refine AT.ghost (st' := ⟨[(5, .bptr 0 0), (6, .ref 8 []), (7, .int m)], [(0, srcB q.2), (8, .t1 d.1)]⟩) (ghost_to [2] [(1, 8)]) ?_
  refine gCN fun K hK => ?_
  first | refine fcall_free rfl rfl (hS) ?_ | refine YR_intro (acall_free rfl rfl (hS)) ?_
  simp only [go_sem, seval]
  refine fcall_bx (hP) (k := ?_); simp only [Aw.ids, go_sem, seval]
  refine hK _ ?_; clear hK K
  refine gCN fun K hK => ?_
  refine fcall_src (hc) rfl rfl ?_; simp only [go_sem, seval]
  refine hK _ ?_; clear hK K
  (repeat refine ats_seq ?_); refine ats_block ?_
  refine gBN ?_
  (repeat refine ats_seq ?_); refine ats_yes rfl trivial ?_
  refine gCN fun K hK => ?_
  refine fcall_bx (hQ) (k := ?_); simp only [Aw.ids, go_sem, seval]
  (repeat refine aI (hb := ?_))
  refine hK _ ?_; clear hK K
  refine gBN ?_
  exact ats_ret ⟨.inr rfl, .tup [.ref 8 [], .int m, .ref 1 []], by simp only [resL, resA, go_sem, seval], rfl⟩
 ·by_cases c1 : a.1 = 1
  ·rw [c1] at hc
   have eN : (n : Int) - 1 = ((n - 1 : Nat) : Int) := by omega
   refine ⟨d.1, m, p.1.set 0 (p.1.getD (n - 1) []), by omega, ?_⟩
   refine PureCall.introR (n := 44) (rs := [.tmp 2, .tmp 3, .tmp 4]) Try.call5 Try.func5 rfl rfl rfl (by simp only [List.length_cons, List.length_nil]; omega) (fun cx hcx hrd => ats_of ?_); simp only [argSlots, Nat.zero_add, Nat.reduceAdd]
   refine gBN ?_
   refine gCN fun K hK => ?_
   refine fcall_bx (hF) (k := ?_); simp only [Aw.ids, go_sem, seval]
   refine hK _ ?_; clear hK K
   refine gCN fun K hK => ?_
   refine fcall_bx (hO) (k := ?_); simp only [Aw.ids, go_sem, seval]
   refine hK _ ?_; clear hK K
   refine gCN fun K hK => ?_
   refine fcall_bx (hQk) (k := ?_); simp only [Aw.ids, go_sem, seval]
   refine hK _ ?_; clear hK K
   (repeat refine ats_seq ?_); refine AT.ghost (st' := ⟨[(5, .bptr 0 0), (6, .ref 8 []), (7, .int m)], [(0, srcB q.2), (8, .t1 d.1)]⟩) (ghost_to [2] [(1, 8)]) ?_
   refine gCN fun K hK => ?_
   first | refine fcall_free rfl rfl (hS) ?_ | refine YR_intro (acall_free rfl rfl (hS)) ?_
   simp only [go_sem, seval]
   refine fcall_bx (hP) (k := ?_); simp only [Aw.ids, go_sem, seval]
   refine hK _ ?_; clear hK K
   (repeat refine ats_seq ?_); refine AT.ghost (ghost_r2 1 rfl) ?_; simp only [find, killL, killA, killAs, killT_srcB, killAs_bsV, qOf, rmT, killH, killT_e, putT, List.map_cons, List.map_nil, List.filter_cons, List.filter_nil, List.contains_cons, List.contains_nil, List.isEmpty_nil, List.isEmpty_cons, Bool.or_false, Bool.or_true, Bool.false_and, Bool.true_and, Bool.and_false, Bool.and_true, Bool.not_true, Bool.not_false, Bool.false_eq_true, if_true, if_false, seval]
   refine gCN fun K hK => ?_
   refine fcall_src (hc) rfl rfl ?_; simp only [go_sem, seval]
   refine hK _ ?_; clear hK K
   (repeat refine ats_seq ?_); refine ats_block ?_
   refine gBN ?_
   (repeat refine ats_seq ?_); refine ats_no rfl trivial ?_
   refine gBN ?_
   (repeat refine ats_seq ?_); refine ats_yes rfl trivial ?_
   (repeat refine ats_seq ?_); refine ats_go (by first | exact fix0 hcx | exact fix1 hcx rfl | exact fixN hcx rfl) fun K hK => ?_; simp only [go_sem, seval, lp, eN]
   (repeat refine aI (hb := ?_))
   refine hK _ ?_; clear hK K
   refine gBN ?_
   exact ats_ret ⟨.inr rfl, .tup [.ref 8 [], .int m, .ref 1 []], by simp only [resL, resA, go_sem, seval], rfl⟩
  ·refine ⟨d.1, m, p.1, by omega, ?_⟩
   obtain ⟨e, ee⟩ : ∃ e, a.1 = e := ⟨_, rfl⟩
   rw [ee] at hc c0 c1
   refine PureCall.introR (n := 44) (rs := [.tmp 2, .tmp 3, .tmp 4]) Try.call5 Try.func5 rfl rfl rfl (by simp only [List.length_cons, List.length_nil]; omega) (fun cx hcx hrd => ats_of ?_); simp only [argSlots, Nat.zero_add, Nat.reduceAdd]
   refine gBN ?_
   refine gCN fun K hK => ?_
   refine fcall_bx (hF) (k := ?_); simp only [Aw.ids, go_sem, seval]
   refine hK _ ?_; clear hK K
   refine gCN fun K hK => ?_
   refine fcall_bx (hO) (k := ?_); simp only [Aw.ids, go_sem, seval]
   refine hK _ ?_; clear hK K
   refine gCN fun K hK => ?_
   refine fcall_bx (hQk) (k := ?_); simp only [Aw.ids, go_sem, seval]
   refine hK _ ?_; clear hK K
   (repeat refine ats_seq ?_); refine AT.ghost (st' := ⟨[(5, .bptr 0 0), (6, .ref 8 []), (7, .int m)], [(0, srcB q.2), (8, .t1 d.1)]⟩) (ghost_to [2] [(1, 8)]) ?_
   refine gCN fun K hK => ?_
   first | refine fcall_free rfl rfl (hS) ?_ | refine YR_intro (acall_free rfl rfl (hS)) ?_
   simp only [go_sem, seval]
   refine fcall_bx (hP) (k := ?_); simp only [Aw.ids, go_sem, seval]
   refine hK _ ?_; clear hK K
   refine gCN fun K hK => ?_
   refine fcall_src (hc) rfl rfl ?_; simp only [go_sem, seval]
   refine hK _ ?_; clear hK K
   (repeat refine ats_seq ?_); refine ats_block ?_
   refine gBN ?_
   refine gI (fun g0 => ?_) fun g0 => ?_
   ·exact absurd g0 c0
   ·refine gBN ?_
    refine gI (fun g1 => ?_) fun g1 => ?_
    ·exact absurd g1 c1
    ·refine ats_skip ?_
     refine gBN ?_
     exact ats_ret ⟨.inr rfl, .tup [.ref 8 [], .int m, .ref 1 []], by simp only [resL, resA, go_sem, seval], rfl⟩
end Go.Proofs.Ytcmgjlgmajhekaa
