import Derived.Test.YtlngnhbochmcoaaPn1
set_option linter.unusedSimpArgs false
set_option linter.unusedVariables false
namespace Go.Pl
noncomputable def hcR (n : Nat) (ms : List (List (List Int))) (vs : List Int) : Nat → List (List Int)
 | 0 => []
 | i + 1 => YU_ n (hcR n ms vs i ++ ltM n (ms.getD i []) (vs.getD i 0))
theorem zU_ {n : Nat} {A B : List (List Int)} (ha : yV_ n A) (hb : yV_ n B) : yV_ n (A ++ B) := fun r hr => by
 rcases List.mem_append.1 hr with h | h
 ·exact ha r h
 ·exact hb r h
theorem Yd_ {m n : Nat} {f : Nat → Nat → Int} (h : ∀ i, i < m → ∀ j, j < n → InP (f i j)) : yV_ n (xy_ m n f) := fun r hr => by
 unfold xy_ at hr
 rw [List.mem_map] at hr
 obtain ⟨i, hi, rfl⟩ := hr
 rw [List.mem_range] at hi
 refine ⟨xn_ .., fun x hx => ?_⟩
 unfold xU_ at hx
 rw [List.mem_map] at hx
 obtain ⟨j, hj, rfl⟩ := hx
 rw [List.mem_range] at hj
 exact h i hi j hj
theorem basL_rows {n : Nat} {A : List (List Int)} (hA : yV_ n A) : yV_ n (YU_ n A) := by
 obtain ⟨pv, hP⟩ := Tj_ (yz_ hA) n (Nat.le_refl _)
 have hd : rkL n A ≤ A.length := hP.dm
 exact Yd_ fun i hi j hj => hP.ent i (by omega) j hj
theorem V1_ {n : Nat} {A : List (List Int)} (hA : yV_ n A) (x : Nat → Int) : S3_ n (YU_ n A) x ↔ S3_ n A x := by
 obtain ⟨pv, hP⟩ := Tj_ (yz_ hA) n (Nat.le_refl _)
 rw [← solL_iff, ← solL_iff, ← hP.sols x]
 have l : (YU_ n A).length = (gj A.length (e2 A) n).2 := wq_
 rw [l]
 have g : ∀ i, i < (gj A.length (e2 A) n).2 → ∀ k, k < n → e2 (YU_ n A) i k = (gj A.length (e2 A) n).1 i k := fun i hi k hk => by
  show ((xy_ (gj A.length (e2 A) n).2 n _).getD i []).getD k 0 = _
  rw [xF_ hi, xE_ hk]
 unfold Sol
 constructor
 ·intro h i hi
  rw [← h i hi]
  congr 1
  exact xs_ fun k hk => by rw [g i hi k hk]
 ·intro h i hi
  rw [← h i hi]
  congr 1
  exact xs_ fun k hk => by rw [g i hi k hk]
theorem aa6 {n : Nat} {A : List (List Int)} (hA : yV_ n A) : rkL n (YU_ n A) = (YU_ n A).length := by
 rw [bh5 (basL_rows hA) hA (V1_ hA), wq_]
theorem Sk_ {n : Nat} {A : List (List Int)} (hA : yV_ n A) : rkL n A ≤ A.length := by
 obtain ⟨pv, hP⟩ := Tj_ (yz_ hA) n (Nat.le_refl _)
 exact hP.dm
theorem YF_ {f g : Nat → Int} {n : Nat} : sumTo (fun i => f i + g i) n = sumTo f n + sumTo g n := by
 induction n with
 | zero => rfl
 | succ n ih => rw [sumTo, sumTo, sumTo, ih]; omega
theorem ws_ {n k : Nat} (hk : k < n) (y : Nat → Int) (c : Int) : sumTo (fun l => (if l = k then c else 0) * y l) n = c * y k := by
 have z : ∀ m, m ≤ k → sumTo (fun l => (if l = k then c else 0) * y l) m = 0 := fun m => by
  induction m with
  | zero => intro _; rfl
  | succ m ih => intro hm; rw [sumTo, ih (by omega), if_neg (by omega), Int.zero_mul]; rfl
 induction n with
 | zero => omega
 | succ n ih =>
  rw [sumTo]
  by_cases e : n = k
  ·rw [z n (by omega), if_pos e, e, Int.zero_add]
  ·rw [ih (by omega), if_neg e, Int.zero_mul, Int.add_zero]
theorem cg7 {n : Nat} {A : List (List Int)} (hA : yV_ n A) : rkL n A ≤ n := by
 have hU : yV_ n (xy_ n n fun i j => if i = j then 1 else 0) := Yd_ fun i _ j _ => by
  by_cases c : i = j
  ·rw [if_pos c]; exact ⟨by omega, by omega⟩
  ·rw [if_neg c]; exact ⟨by omega, by omega⟩
 have h := aq3 hU hA fun x hx => by
  have z : ∀ k, k < n → x k % 55441 = 0 := fun k hk => by
   have := (solL_iff (A := xy_ n n fun i j => if i = j then 1 else 0)).2 hx k (by rw [xx_]; exact hk)
   rw [xs_ (g := fun l => (if l = k then 1 else 0) * x l) fun l hl => by
    show ((xy_ n n _).getD k []).getD l 0 * _ = _
    rw [xF_ hk, xE_ hl]
    by_cases c : k = l
    ·rw [if_pos c, if_pos c.symm]
    ·rw [if_neg c, if_neg (Ne.symm c)], ws_ hk, Int.one_mul] at this
   exact this
  intro r _
  have : sumTo (fun k => r.getD k 0 * x k) n % 55441 = sumTo (fun _ => 0) n % 55441 := WU_ fun k hk => by rw [Int.mul_emod, z k hk, Int.mul_zero, Int.zero_emod]
  rw [this]
  have z0 : ∀ m, sumTo (fun _ => 0) m = 0 := fun m => by
   induction m with
   | zero => rfl
   | succ m ih => rw [sumTo, ih]; rfl
  rw [z0]
  rfl
 have h2 := Sk_ hU
 rw [xx_] at h2
 omega
theorem bi0 {n : Nat} {A : List (List Int)} (hA : yV_ n A) {x : Nat → Int} (hx : S3_ n A x) {j : Nat} (hj : j < n) (h0 : x j % 55441 ≠ 0) : rkL n A < n := by
 obtain ⟨v, hv⟩ : ∃ v : Int, x j * v % 55441 = 1 := by
  refine ⟨inv (x j % 55441), ?_⟩
  have := wZ_ (x7_ (x j)) h0
  rw [au4] at this
  exact this
 -- rows whose solutions are the multiples of x
 obtain ⟨B, eB⟩ : ∃ B : List (List Int), B = xy_ (n - 1) n fun i k => if k = (if i < j then i else i + 1) then 1 else if k = j then (-(x (if i < j then i else i + 1) * v)) % 55441 else 0 := ⟨_, rfl⟩
 have hB : yV_ n B := by
  rw [eB]
  refine Yd_ fun i _ k _ => ?_
  generalize (if i < j then i else i + 1) = a
  by_cases c : k = a
  ·rw [if_pos c]; exact ⟨by omega, by omega⟩
  ·rw [if_neg c]
   by_cases d : k = j
   ·rw [if_pos d]; exact x7_ _
   ·rw [if_neg d]; exact ⟨by omega, by omega⟩
 have lB : B.length = n - 1 := by rw [eB, xx_]
 have key : ∀ y, S3_ n B y → S3_ n A y := fun y hy => by
  have hk : ∀ k, k < n → y k % 55441 = x k * (v * y j) % 55441 := fun k hk => by
   by_cases c : k = j
   ·subst c
    have e : x k * (v * y k) = x k * v * y k := by rw [Int.mul_assoc]
    rw [e, Int.mul_emod, hv]
    omega
   ·have hi : (if k < j then k else k - 1) < n - 1 := by split <;> omega
    have hr := (solL_iff (A := B)).2 hy (if k < j then k else k - 1) (by rw [lB]; exact hi)
    have hidx : (if (if k < j then k else k - 1) < j then (if k < j then k else k - 1) else (if k < j then k else k - 1) + 1) = k := by
     by_cases c2 : k < j
     ·rw [if_pos c2, if_pos c2]
     ·rw [if_neg c2, if_neg (by omega)]; omega
    have row : ∀ l, l < n → e2 B (if k < j then k else k - 1) l = if l = k then 1 else if l = j then (-(x k * v)) % 55441 else 0 := fun l hl => by
     rw [eB]
     show ((xy_ _ n _).getD _ []).getD l 0 = _
     rw [xF_ hi, xE_ hl, hidx]
    have es : sumTo (fun l => e2 B (if k < j then k else k - 1) l * y l) n = sumTo (fun l => (if l = k then 1 else 0) * y l + (if l = j then (-(x k * v)) % 55441 else 0) * y l) n := xs_ fun l hl => by
     rw [row l hl]
     by_cases a : l = k
     ·rw [if_pos a, if_pos a, if_neg (by omega)]; omega
     ·rw [if_neg a, if_neg a]; omega
    rw [es, YF_, ws_ hk y 1, ws_ hj y _] at hr
    have e3 : (1 * y k + -(x k * v) % 55441 * y j) % 55441 = (y k - x k * (v * y j)) % 55441 := by
     rw [Int.one_mul, Int.add_emod, Int.mul_emod, Int.emod_emod_of_dvd _ (Int.dvd_refl _), ← Int.mul_emod, ← Int.add_emod]
     congr 1
     rw [Int.neg_mul, Int.mul_assoc]
     omega
    rw [e3] at hr
    omega
  refine (solL_iff (A := A)).1 fun i hi => ?_
  have hxi := (solL_iff (A := A)).2 hx i hi
  have e1 : sumTo (fun k => e2 A i k * y k) n % 55441 = sumTo (fun k => e2 A i k * x k * (v * y j)) n % 55441 := WU_ fun k hk2 => by
   rw [Int.mul_emod, hk k hk2, ← Int.mul_emod, Int.mul_assoc]
  have e2' : sumTo (fun k => e2 A i k * x k * (v * y j)) n = (v * y j) * sumTo (fun k => e2 A i k * x k) n := by
   rw [← X4_]
   exact xs_ fun k _ => Int.mul_comm _ _
  rw [e1, e2', Int.mul_emod, hxi, Int.mul_zero, Int.zero_emod]
 have h1 := aq3 hB hA key
 have h2 := Sk_ hB
 omega
theorem wt_ {n : Nat} {m : List (List Int)} (h : ∀ i, i < n → ∀ j, j < n → InP (e2 m i j)) (c : Int) : yV_ n (ltM n m c) := Yd_ fun i hi j hj => by
 split
 ·exact x7_ _
 ·exact h i hi j hj
theorem zD_ {n : Nat} {ms : List (List (List Int))} {vs : List Int} : ∀ i, (∀ l, l < i → ∀ a, a < n → ∀ b, b < n → InP (e2 (ms.getD l []) a b)) → yV_ n (hcR n ms vs i) ∧ (hcR n ms vs i).length ≤ n
 | 0, _ => ⟨fun r hr => by simp [hcR] at hr, Nat.zero_le _⟩
 | i + 1, h => by
  have ih := zD_ (vs := vs) i fun l hl => h l (by omega)
  have hA := zU_ ih.1 (wt_ (h i (by omega)) (vs.getD i 0))
  refine ⟨basL_rows hA, ?_⟩
  show (YU_ n _).length ≤ n
  rw [wq_]
  exact cg7 hA
theorem aZ1 {n : Nat} {ms : List (List (List Int))} {vs : List Int} {i : Nat} (h : ∀ l, l < i → ∀ a, a < n → ∀ b, b < n → InP (e2 (ms.getD l []) a b)) {x : Nat → Int} {j : Nat} (hj : j < n) (h0 : x j % 55441 ≠ 0)
  (hx : ∀ l, l < i → ∀ a, a < n → sumTo (fun b => e2 (ms.getD l []) a b * x b) n % 55441 = vs.getD l 0 * x a % 55441) : (hcR n ms vs i).length < n := by
 have hS : ∀ l, l ≤ i → S3_ n (hcR n ms vs l) x := fun l => by
  induction l with
  | zero => intro _ r hr; simp [hcR] at hr
  | succ l ih =>
   intro hl
   have ih := ih (by omega)
   have hR := (zD_ (vs := vs) l fun m hm => h m (by omega)).1
   have hL := wt_ (h l (by omega)) (vs.getD l 0)
   show S3_ n (YU_ n _) x
   rw [V1_ (zU_ hR hL)]
   intro r hr
   rcases List.mem_append.1 hr with hr | hr
   ·exact ih r hr
   ·unfold ltM xy_ at hr
    rw [List.mem_map] at hr
    obtain ⟨a, ha, rfl⟩ := hr
    rw [List.mem_range] at ha
    have e := hx l (by omega) a ha
    have s1 : sumTo (fun k => (xU_ n fun j => if a = j then (e2 (ms.getD l []) a j - vs.getD l 0) % 55441 else e2 (ms.getD l []) a j).getD k 0 * x k) n % 55441 = sumTo (fun k => e2 (ms.getD l []) a k * x k + (if k = a then -(vs.getD l 0) else 0) * x k) n % 55441 := WU_ fun k hk => by
     rw [xE_ hk]
     by_cases c : a = k
     ·rw [if_pos c, if_pos c.symm, Int.mul_emod, Int.emod_emod_of_dvd _ (Int.dvd_refl _), ← Int.mul_emod, Int.sub_mul, Int.neg_mul]
      rfl
     ·rw [if_neg c, if_neg (Ne.symm c), Int.zero_mul, Int.add_zero]
    rw [s1, YF_, ws_ ha x]
    rw [Int.add_emod, e, ← Int.add_emod, Int.neg_mul, Int.add_right_neg]
    rfl
 have hR := zD_ (vs := vs) i h
 cases i with
 | zero => show 0 < n; omega
 | succ i =>
  have hA := zU_ (zD_ (vs := vs) i fun m hm => h m (by omega)).1 (wt_ (h i (by omega)) (vs.getD i 0))
  have := bi0 hR.1 (hS (i + 1) (Nat.le_refl _)) hj h0
  have e : rkL n (hcR n ms vs (i + 1)) = (hcR n ms vs (i + 1)).length := aa6 hA
  omega
theorem aZ2 {n : Nat} {ms : List (List (List Int))} {vs : List Int} {i : Nat} (h : ∀ l, l < i → ∀ a, a < n → ∀ b, b < n → InP (e2 (ms.getD l []) a b)) : rkL n (hcR n ms vs i) = (hcR n ms vs i).length := by
 cases i with
 | zero =>
  have := Sk_ (n := n) (A := hcR n ms vs 0) (zD_ 0 h).1
  have e : (hcR n ms vs 0).length = 0 := rfl
  omega
 | succ i => exact aa6 (zU_ (zD_ (vs := vs) i fun m hm => h m (by omega)).1 (wt_ (h i (by omega)) (vs.getD i 0)))
end Go.Pl
namespace Go.Pl
theorem gde {α : Type} {l : List α} {i : Nat} {d : α} (h : i < l.length) : l.getD i d = l[i] := by
 rw [List.getD_eq_getElem?_getD, List.getElem?_eq_getElem h]; rfl
theorem gdm {α : Type} {l : List α} {i : Nat} {d : α} (h : i < l.length) : l.getD i d ∈ l := by
 rw [gde h]; exact List.getElem_mem _
def CV (n : Nat) (Ms : Nat → List (List Int)) (k : Nat) (y : Nat → Int) : Prop := ∃ v : Nat → Int, (∃ j, j < n ∧ v j % 55441 ≠ 0) ∧ ∀ i, i < k → ∀ a, a < n → sumTo (fun b => e2 (Ms i) a b * v b) n % 55441 = y i * v a % 55441
theorem CV.le {n : Nat} {Ms : Nat → List (List Int)} {k l : Nat} {y : Nat → Int} (h : CV n Ms k y) (hl : l ≤ k) : CV n Ms l y := by
 obtain ⟨v, h1, h2⟩ := h
 exact ⟨v, h1, fun i hi => h2 i (by omega)⟩
theorem CV.congr {n : Nat} {Ms : Nat → List (List Int)} {k : Nat} {y z : Nat → Int} (h : CV n Ms k y) (e : ∀ i, i < k → y i = z i) : CV n Ms k z := by
 obtain ⟨v, h1, h2⟩ := h
 exact ⟨v, h1, fun i hi a ha => by rw [h2 i hi a ha, e i hi]⟩
theorem aw4 {n : Nat} {ms : List (List (List Int))} {vs : List Int} {i : Nat} (h : ∀ l, l < i → ∀ a, a < n → ∀ b, b < n → InP (e2 (ms.getD l []) a b)) : (hcR n ms vs i).length < n ↔ CV n (fun l => ms.getD l []) i fun l => vs.getD l 0 := by
 constructor
 ·intro hl
  obtain ⟨y, ⟨j, hj, h0⟩, hy⟩ := under (p := 55441) (by omega) hl (e2 (hcR n ms vs i))
  have hS : S3_ n (hcR n ms vs i) y := (solL_iff (A := hcR n ms vs i)).1 fun r hr => hy r hr
  clear hl hy
  refine ⟨y, ⟨j, hj, h0⟩, ?_⟩
  induction i with
  | zero => intro l hl; omega
  | succ i ih =>
   have hR := (zD_ (vs := vs) i fun m hm => h m (by omega)).1
   have hL := wt_ (h i (by omega)) (vs.getD i 0)
   have hS2 : S3_ n (hcR n ms vs i ++ ltM n (ms.getD i []) (vs.getD i 0)) y := (V1_ (zU_ hR hL) y).1 hS
   intro l hl a ha
   by_cases c : l < i
   ·exact ih (fun m hm => h m (by omega)) (fun r hr => hS2 r (List.mem_append_left _ hr)) l c a ha
   ·obtain rfl : l = i := by omega
    have hr := hS2 ((ltM n (ms.getD l []) (vs.getD l 0)).getD a []) (by
     refine List.mem_append_right _ ?_
     have lL : (ltM n (ms.getD l []) (vs.getD l 0)).length = n := xx_ ..
     exact gdm (by rw [lL]; exact ha))
    have s1 : sumTo (fun k => ((ltM n (ms.getD l []) (vs.getD l 0)).getD a []).getD k 0 * y k) n % 55441 = sumTo (fun k => e2 (ms.getD l []) a k * y k + (if k = a then -(vs.getD l 0) else 0) * y k) n % 55441 := WU_ fun k hk => by
     unfold ltM
     rw [xF_ ha, xE_ hk]
     by_cases c : a = k
     ·rw [if_pos c, if_pos c.symm, Int.mul_emod, Int.emod_emod_of_dvd _ (Int.dvd_refl _), ← Int.mul_emod, Int.sub_mul, Int.neg_mul]
      rfl
     ·rw [if_neg c, if_neg (Ne.symm c), Int.zero_mul, Int.add_zero]
    rw [s1, YF_, ws_ ha y, Int.neg_mul] at hr
    show sumTo (fun b => e2 (ms.getD l []) a b * y b) n % 55441 = vs.getD l 0 * y a % 55441
    omega
 ·rintro ⟨v, ⟨j, hj, h0⟩, hv⟩
  exact aZ1 h hj h0 hv
theorem aw5 {n k : Nat} {Ms : Nat → Nat → Nat → Fq} {Y V : Nat → Nat → Fq} : ∀ m, (∀ j, j < m → ∀ l, l < j → ∃ i, i < k ∧ Y j i ≠ Y l i) → (∀ j, j < m → (∃ a, a < n ∧ V j a ≠ 0) ∧ ∀ i, i < k → ∀ a, a < n → sm n (fun b => Ms i a b * V j b) = Y j i * V j a) →
  ∀ c : Nat → Fq, (∀ a, a < n → sm m (fun j => c j * V j a) = 0) → ∀ j, j < m → c j = 0
 | 0, _, _, _, _ => fun j hj => absurd hj (Nat.not_lt_zero j)
 | m + 1, hd, hv, c, hc => by
  have step : ∀ i, i < k → ∀ a, a < n → sm m (fun j => c j * (Y j i - Y m i) * V j a) = 0 := fun i hi a ha => by
   have e1 : sm n (fun b => Ms i a b * sm (m + 1) fun j => c j * V j b) = sm (m + 1) fun j => c j * (Y j i * V j a) := by
    rw [xm_ (g := fun b => sm (m + 1) fun j => c j * (Ms i a b * V j b)) fun b _ => by rw [← yA_]; exact xm_ fun j _ => by grind]
    rw [z9_]
    exact xm_ fun j hj => by rw [yA_, (hv j hj).2 i hi a ha]
   have e0 : sm n (fun b => Ms i a b * sm (m + 1) fun j => c j * V j b) = 0 := yi_ fun b hb => by rw [hc b hb]; grind
   rw [e0] at e1
   have e2' := hc a ha
   have e3 : sm (m + 1) (fun j => c j * (Y j i * V j a)) - Y m i * sm (m + 1) (fun j => c j * V j a) = sm m (fun j => c j * (Y j i - Y m i) * V j a) := by
    rw [xQ_, xQ_]
    have e4 : sm m (fun j => c j * (Y j i * V j a)) = sm m (fun j => c j * (Y j i - Y m i) * V j a) + Y m i * sm m (fun j => c j * V j a) := by
     rw [← yA_, ← wv_]
     exact xm_ fun j _ => by grind
    rw [e4]
    grind
   rw [← e3, ← e1, e2']
   grind
  have hz : ∀ j, j < m → c j = 0 := fun j hj => by
   obtain ⟨i, hi, hne⟩ := hd m (by omega) j hj
   have := aw5 m (fun a ha => hd a (by omega)) (fun a ha => hv a (by omega)) (fun j => c j * (Y j i - Y m i)) (fun a ha => step i hi a ha) j hj
   rcases YD_ _ _ this with h | h
   ·exact h
   ·exact absurd (by grind : Y m i = Y j i) hne
  intro j hj
  by_cases e : j < m
  ·exact hz j e
  ·obtain rfl : j = m := by omega
   obtain ⟨⟨a, ha, h0⟩, _⟩ := hv j (by omega)
   have := hc a ha
   rw [xQ_, yi_ fun l hl => by rw [hz l hl]; grind] at this
   rcases YD_ (c j) (V j a) (by grind) with h | h
   ·exact h
   ·exact absurd h h0
theorem bi1 {n k : Nat} {Ms : Nat → List (List Int)} {L : List (List Int)} (hnd : L.Nodup) (hl : ∀ y ∈ L, y.length = k) (hp : ∀ y ∈ L, ∀ i, i < k → InP (y.getD i 0)) (hv : ∀ y ∈ L, CV n Ms k fun i => y.getD i 0) : L.length ≤ n := by
 refine Classical.byContradiction fun hc => ?_
 have hm : n < L.length := by omega
 have hmem : ∀ j, j < L.length → L.getD j [] ∈ L := fun j hj => gdm hj
 have hch : ∀ j, ∃ v : Nat → Int, j < L.length → (∃ a, a < n ∧ v a % 55441 ≠ 0) ∧ ∀ i, i < k → ∀ a, a < n → sumTo (fun b => e2 (Ms i) a b * v b) n % 55441 = (L.getD j []).getD i 0 * v a % 55441 := fun j => by
  by_cases c : j < L.length
  ·obtain ⟨v, h1, h2⟩ := hv _ (hmem j c)
   exact ⟨v, fun _ => ⟨h1, h2⟩⟩
  ·exact ⟨fun _ => 0, fun h => absurd h c⟩
 obtain ⟨V, hV⟩ := Classical.axiomOfChoice hch
 obtain ⟨y, ⟨j, hj, h0⟩, hy⟩ := under (p := 55441) (by omega) hm (fun a j => V j a)
 refine h0 (fqI_nz.1 (aw5 (n := n) (k := k) (Ms := fun i => fqM (Ms i)) (Y := fun j i => fqI ((L.getD j []).getD i 0)) (V := fun j a => fqI (V j a)) L.length (fun a ha b hb => ?_) (fun a ha => ⟨?_, fun i hi c hc2 => ?_⟩) (fun j => fqI (y j)) (fun a ha => ?_) j hj))
 ·refine Classical.byContradiction fun hno => ?_
  have e : L.getD a [] = L.getD b [] := by
   have l1 := hl _ (hmem a ha)
   have l2 := hl _ (hmem b (by omega))
   refine List.ext_getElem (by rw [l1, l2]) fun i h1 h2 => ?_
   have h3 : fqI ((L.getD a []).getD i 0) = fqI ((L.getD b []).getD i 0) := Classical.byContradiction fun h => hno ⟨i, by omega, h⟩
   have h4 := Wh_ (hp _ (hmem a ha) i (by omega)) (hp _ (hmem b (by omega)) i (by omega)) h3
   rw [gde h1, gde h2] at h4
   exact h4
  rw [gde ha, gde (by omega : b < L.length)] at e
  exact (List.pairwise_iff_getElem.1 hnd) b a (by omega) ha hb e.symm
 ·obtain ⟨⟨c, hc1, hc2⟩, _⟩ := hV a ha
  exact ⟨c, hc1, fun h => hc2 (fqI_nz.1 h)⟩
 ·have := (hV a ha).2 i hi c hc2
  show sm n (fun b => fqM (Ms i) c b * fqI (V a b)) = fqI _ * fqI _
  rw [← yk_, ← fqI_eq.2 this, wa_]
  exact xm_ fun b _ => (yk_ ..).symm
 ·have := hy a ha
  have e : fqI (sumTo (fun j => V j a * y j) L.length) = 0 := fqI_nz.2 this
  rw [wa_] at e
  rw [← e]
  exact xm_ fun b _ => by rw [yk_]; grind
theorem Sl_ {t : List (List (List Int))} (hc : Cube t) {x : List Int} (hx : ListP t x) (h : wX_ t x) : CV t.length (fun l => t.getD l []) t.length fun l => x.getD l 0 := by
 refine ⟨fun j => x.getD j 0, ⟨0, by have := hc.1; omega, ?_⟩, fun i hi a ha => ?_⟩
 ·show x.getD 0 0 % 55441 ≠ 0
  rw [h.2]
  omega
 ·have := h.1 i hi a ha
  show sumTo _ _ % 55441 = x.getD i 0 * x.getD a 0 % 55441
  rw [← this]
  show _ = Ti_ _ _ _
  unfold Ti_
  rfl
theorem aJ2 {t : List (List (List Int))} (hR : RingP t) {x : List Int} (x0 : x.getD 0 0 = 1) (h : CV t.length (fun l => t.getD l []) t.length fun l => x.getD l 0) : wX_ t x := by
 obtain ⟨v, ⟨a, ha, h0⟩, hv⟩ := h
 refine ⟨fun i hi j hj => ?_, x0⟩
 obtain ⟨n, en⟩ : ∃ n, t.length = n := ⟨_, rfl⟩
 have hb := fun c hc => hR.brack i hi j hj a ha c hc
 rw [en] at ha hi hj hv hb ⊢
 obtain ⟨N, eN⟩ : ∃ N : Nat → Nat → Nat → Fq, N = fun i j k => fqI (e3 t i j k) := ⟨_, rfl⟩
 have hN : ∀ i, i < n → ∀ c, c < n → sm n (fun b => N i c b * fqI (v b)) = fqI (x.getD i 0) * fqI (v c) := fun i hi c hc => by
  rw [← yk_, ← fqI_eq.2 (hv i hi c hc), wa_, eN]
  exact xm_ fun b _ => (yk_ ..).symm
 have hB : ∀ c, c < n → sm n (fun m => N i j m * N m a c) = sm n (fun m => N j a m * N i m c) := fun c hc => by
  have := congrArg fqI (hb c hc)
  rw [wa_, wa_] at this
  rw [eN]
  refine Eq.trans ?_ (this.trans ?_)
  ·exact xm_ fun m _ => (yk_ ..).symm
  ·exact xm_ fun m _ => yk_ ..
 have key : (sm n fun m => N i j m * fqI (x.getD m 0)) * fqI (v a) = fqI (x.getD i 0) * fqI (x.getD j 0) * fqI (v a) := by
  have e1 : (sm n fun m => N i j m * fqI (x.getD m 0)) * fqI (v a) = sm n fun m => sm n fun c => N i j m * N m a c * fqI (v c) := by
   rw [← z8_]
   refine xm_ fun m hm => ?_
   have := hN m hm a ha
   rw [xm_ (g := fun c => N i j m * (N m a c * fqI (v c))) fun c _ => by grind, yA_, this]
   grind
  have e2' : (sm n fun m => sm n fun c => N j a m * N i m c * fqI (v c)) = fqI (x.getD i 0) * fqI (x.getD j 0) * fqI (v a) := by
   rw [xm_ (g := fun m => fqI (x.getD i 0) * (N j a m * fqI (v m))) fun m hm => by
    rw [xm_ (g := fun c => N j a m * (N i m c * fqI (v c))) fun c _ => by grind, yA_, hN i hi m hm]; grind]
   rw [yA_, hN j hj a ha]
   grind
  rw [e1, z9_, ← e2', z9_ n n fun m c => N j a m * N i m c * fqI (v c)]
  exact xm_ fun c hc => by rw [z8_, z8_, hB c hc]
 have k2 : (sm n fun m => N i j m * fqI (x.getD m 0)) = fqI (x.getD i 0) * fqI (x.getD j 0) := by
  rcases YD_ ((sm n fun m => N i j m * fqI (x.getD m 0)) - fqI (x.getD i 0) * fqI (x.getD j 0)) (fqI (v a)) (by grind) with h | h
  ·grind
  ·exact absurd (fqI_nz.1 h) h0
 show sumTo (Qt_ ((t.getD i []).getD j []) x) n % 55441 = _
 rw [← fqI_eq, wa_, yk_, ← k2, eN]
 exact xm_ fun m _ => yk_ ..
end Go.Pl
namespace Go.Pl
theorem aJ3 {α : Type} [DecidableEq α] : ∀ {l1 l2 : List α}, l1.Nodup → (∀ x ∈ l1, x ∈ l2) → l1.length ≤ l2.length
 | [], _, _, _ => Nat.zero_le _
 | a :: l, l2, hn, hs => by
  have ha := hs a (List.mem_cons_self ..)
  have hn' := List.nodup_cons.1 hn
  have := aJ3 (l1 := l) (l2 := l2.erase a) hn'.2 fun x hx => (List.mem_erase_of_ne fun e => hn'.1 (by rw [← e]; exact hx)).2 (hs x (List.mem_cons_of_mem _ hx))
  rw [List.length_erase_of_mem ha] at this
  have := List.length_pos_of_mem ha
  rw [List.length_cons]
  omega
def exT (Q : List Int → Bool) (x V : List Int) : List (List Int) := (V.filter fun v => Q (x ++ [v])).map fun v => x ++ [v]
def exL (Q : List Int → Bool) (V : List Int) (L : List (List Int)) : List (List Int) := L.flatMap fun x => exT Q x V
theorem ar9 (Q : List Int → Bool) (x V : List Int) (v : Int) : exT Q x (V ++ [v]) = exT Q x V ++ if Q (x ++ [v]) = true then [x ++ [v]] else [] := by
 unfold exT
 rw [List.filter_append, List.map_append]
 congr 1
 by_cases c : Q (x ++ [v]) = true
 ·rw [if_pos c, List.filter_cons, if_pos c]; rfl
 ·rw [if_neg c, List.filter_cons, if_neg c]; rfl
theorem as0 (Q : List Int → Bool) (V : List Int) (L : List (List Int)) (x : List Int) : exL Q V (L ++ [x]) = exL Q V L ++ exT Q x V := by
 unfold exL
 rw [List.flatMap_append, List.flatMap_cons, List.flatMap_nil, List.append_nil]
theorem exT_mem {Q : List Int → Bool} {x V y : List Int} : y ∈ exT Q x V ↔ ∃ v, v ∈ V ∧ Q (x ++ [v]) = true ∧ y = x ++ [v] := by
 unfold exT
 rw [List.mem_map]
 constructor
 ·rintro ⟨v, hv, rfl⟩
  rw [List.mem_filter] at hv
  exact ⟨v, hv.1, hv.2, rfl⟩
 ·rintro ⟨v, h1, h2, rfl⟩
  exact ⟨v, List.mem_filter.2 ⟨h1, h2⟩, rfl⟩
theorem aJ4 (Q : List Int → Bool) (x V : List Int) (b : Nat) : (exT Q x (V.take b)).length ≤ (exT Q x V).length := by
 have e : V = V.take b ++ V.drop b := (List.take_append_drop b V).symm
 unfold exT
 rw [List.length_map, List.length_map]
 conv => rhs; rw [e]
 rw [List.filter_append, List.length_append]
 omega
theorem aJ5 (Q : List Int → Bool) (V : List Int) (L : List (List Int)) {a : Nat} (ha : a < L.length) (b : Nat) : (exL Q V (L.take a) ++ exT Q (L.getD a []) (V.take b)).length ≤ (exL Q V L).length := by
 have e : L = L.take a ++ L.getD a [] :: L.drop (a + 1) := by
  rw [gde ha, ← List.drop_eq_getElem_cons ha, List.take_append_drop]
 have h := aJ4 Q (L.getD a []) V b
 have e2 : (exL Q V L).length = (exL Q V (L.take a)).length + ((exT Q (L.getD a []) V).length + (exL Q V (L.drop (a + 1))).length) := by
  conv => lhs; rw [e]
  unfold exL
  rw [List.flatMap_append, List.flatMap_cons, List.length_append, List.length_append]
 rw [List.length_append, e2]
 omega
def chS (Q : Nat → List Int → Bool) (V : Nat → List Int) : Nat → List (List Int)
 | 0 => [[1]]
 | i + 1 => exL (Q i) (V i) (chS Q V i)
theorem zV_ {x : List Int} {v : Int} {i : Nat} (h : i < x.length) : (x ++ [v]).getD i 0 = x.getD i 0 := by
 rw [List.getD_eq_getElem?_getD, List.getElem?_append_left h, ← List.getD_eq_getElem?_getD]
theorem w0_ {x : List Int} {v : Int} : (x ++ [v]).getD x.length 0 = v := by
 rw [List.getD_eq_getElem?_getD, List.getElem?_append_right (Nat.le_refl _), Nat.sub_self]; rfl
theorem chS_mem {Q : Nat → List Int → Bool} {V : Nat → List Int} : ∀ {k : Nat} {y : List Int}, y ∈ chS Q V k ↔ y.length = k + 1 ∧ y.getD 0 0 = 1 ∧ ∀ i, i < k → y.getD (i + 1) 0 ∈ V i ∧ Q i (y.take (i + 2)) = true
 | 0, y => by
  show y ∈ [[1]] ↔ _
  rw [List.mem_singleton]
  constructor
  ·rintro rfl
   exact ⟨rfl, rfl, fun i hi => by omega⟩
  ·rintro ⟨h1, h2, _⟩
   match y, h1 with
   | [a], _ => simp at h2; rw [h2]
 | k + 1, y => by
  show y ∈ (chS Q V k).flatMap _ ↔ _
  rw [List.mem_flatMap]
  constructor
  ·rintro ⟨x, hx, hy⟩
   obtain ⟨v, hv, hq, rfl⟩ := exT_mem.1 hy
   obtain ⟨h1, h2, h3⟩ := chS_mem.1 hx
   refine ⟨by rw [List.length_append, h1]; rfl, by rw [zV_ (by omega)]; exact h2, fun i hi => ?_⟩
   by_cases c : i = k
   ·subst c
    refine ⟨?_, ?_⟩
    ·rw [← h1, w0_]; exact hv
    ·rw [List.take_of_length_le (by rw [List.length_append, h1]; exact Nat.le_refl _)]; exact hq
   ·rw [zV_ (by omega), List.take_append_of_le_length (by omega)]
    exact h3 i (by omega)
  ·rintro ⟨h1, h2, h3⟩
   have e : y = y.take (k + 1) ++ [y.getD (k + 1) 0] := by
    rw [← take_snoc (by omega)]
    exact (List.take_of_length_le (by omega)).symm
   refine ⟨y.take (k + 1), chS_mem.2 ⟨by rw [List.length_take]; omega, ?_, fun i hi => ?_⟩, exT_mem.2 ⟨y.getD (k + 1) 0, (h3 k (by omega)).1, ?_, e⟩⟩
   ·rw [← h2, e, zV_ (by rw [List.length_take]; omega)]
    rw [← e]
   ·have a := h3 i (by omega)
    rw [List.take_take, show min (i + 2) (k + 1) = i + 2 by omega]
    refine ⟨?_, a.2⟩
    have g : y.getD (i + 1) 0 = (y.take (k + 1)).getD (i + 1) 0 := by
     rw [List.getD_eq_getElem?_getD, List.getD_eq_getElem?_getD, List.getElem?_take, if_pos (by omega)]
    rw [← g]
    exact a.1
   ·rw [← e]
    have := (h3 k (by omega)).2
    rw [List.take_of_length_le (by omega)] at this
    exact this
theorem aa7 {Q : List Int → Bool} {x V : List Int} (h : V.Nodup) : (exT Q x V).Nodup := by
 unfold exT
 refine List.Pairwise.map _ (fun a b hab e => hab ?_) (List.Pairwise.filter _ h)
 have := List.append_cancel_left e
 simpa using this
theorem W7_ {f : List Int → List (List Int)} : ∀ {L : List (List Int)}, L.Nodup → (∀ x ∈ L, (f x).Nodup) → (∀ x ∈ L, ∀ x' ∈ L, ∀ y, y ∈ f x → y ∈ f x' → x = x') → (L.flatMap f).Nodup
 | [], _, _, _ => List.nodup_nil
 | x :: L, h, h1, h2 => by
  rw [List.flatMap_cons, List.nodup_append]
  have hn := List.nodup_cons.1 h
  refine ⟨h1 x (List.mem_cons_self ..), W7_ hn.2 (fun z hz => h1 z (List.mem_cons_of_mem _ hz)) (fun z hz z' hz' => h2 z (List.mem_cons_of_mem _ hz) z' (List.mem_cons_of_mem _ hz')), fun a ha b hb e => ?_⟩
  subst e
  obtain ⟨z, hz, hz2⟩ := List.mem_flatMap.1 hb
  have := h2 x (List.mem_cons_self ..) z (List.mem_cons_of_mem _ hz) a ha hz2
  subst this
  exact hn.1 hz
theorem Wo_ {Q : Nat → List Int → Bool} {V : Nat → List Int} (h : ∀ i, (V i).Nodup) : ∀ k, (chS Q V k).Nodup
 | 0 => by show [[(1 : Int)]].Nodup; simp
 | k + 1 => W7_ (Wo_ h k) (fun _ _ => aa7 (h k)) fun x hx x' hx' y hy hy' => by
  obtain ⟨v, _, _, e⟩ := exT_mem.1 hy
  obtain ⟨v', _, _, e'⟩ := exT_mem.1 hy'
  have l := (chS_mem.1 hx).1
  have l' := (chS_mem.1 hx').1
  rw [e] at e'
  exact (List.append_inj e' (by omega)).1
noncomputable def hcQ (t : List (List (List Int))) (i : Nat) (y : List Int) : Bool := decide ((hcR t.length ((t.drop 1).take (i + 1)) (y.drop 1) (i + 1)).length < t.length)
noncomputable def egV (t : List (List (List Int))) (i : Nat) : List Int := rtL (flS t.length (t.getD (i + 1) []) t.length).2 55441
noncomputable def Wp_ (t : List (List (List Int))) (k : Nat) : List (List Int) := chS (hcQ t) (egV t) k
theorem Zh_ {t : List (List (List Int))} {i l : Nat} (h : l < i + 1) : ((t.drop 1).take (i + 1)).getD l [] = t.getD (l + 1) [] := by
 rw [List.getD_eq_getElem?_getD, List.getElem?_take, if_pos h, List.getElem?_drop, ← List.getD_eq_getElem?_getD, Nat.add_comm 1 l]
theorem aJ6 {y : List Int} {l : Nat} : (y.drop 1).getD l 0 = y.getD (l + 1) 0 := by
 rw [List.getD_eq_getElem?_getD, List.getElem?_drop, ← List.getD_eq_getElem?_getD, Nat.add_comm 1 l]
theorem Zi_ {t : List (List (List Int))} (hc : Cube t) {l : Nat} (hl : l < t.length) : ∀ a, a < t.length → ∀ b, b < t.length → InP (e2 (t.getD l []) a b) := fun a ha b hb => by
 have := ((hc.2.2 l hl).2 a ha).2 b hb
 exact ⟨this.1, Int.le_trans this.2 (by omega)⟩
theorem Tg_ {t : List (List (List Int))} (hc : Cube t) {l : Nat} (hl : l < t.length) : MatP t.length (t.getD l []) :=
 ⟨(hc.2.2 l hl).1, fun i hi => ⟨((hc.2.2 l hl).2 i hi).1, fun j hj => Zi_ hc hl i hi j hj⟩⟩
theorem aa8 {t : List (List (List Int))} (hR : RingP t) {i : Nat} (hi : i + 1 < t.length) {y : List Int} (y0 : y.getD 0 0 = 1) : hcQ t i y = true ↔ CV t.length (fun l => t.getD l []) (i + 2) fun l => y.getD l 0 := by
 unfold hcQ
 rw [decide_eq_true_iff, aw4 (fun l hl => by rw [Zh_ hl]; exact Zi_ hR.cube (by omega))]
 constructor
 ·rintro ⟨v, h1, h2⟩
  refine ⟨v, h1, fun l hl a ha => ?_⟩
  cases l with
  | zero =>
   show sumTo (fun b => e2 (t.getD 0 []) a b * v b) t.length % 55441 = y.getD 0 0 * v a % 55441
   rw [y0, Int.one_mul]
   rw [xs_ (g := fun b => (if b = a then 1 else 0) * v b) fun b hb => by
    have := hR.left a ha b hb
    show e3 t 0 a b * v b = _
    rw [this]
    unfold dl
    by_cases c : a = b
    ·rw [if_pos (by omega), if_pos c.symm]
    ·rw [if_neg (by omega), if_neg (Ne.symm c)], ws_ ha, Int.one_mul]
  | succ l =>
   have this : sumTo (fun b => e2 (((t.drop 1).take (i + 1)).getD l []) a b * v b) t.length % 55441 = (y.drop 1).getD l 0 * v a % 55441 := h2 l (by omega) a ha
   rw [Zh_ (by omega), aJ6] at this
   exact this
 ·rintro ⟨v, h1, h2⟩
  refine ⟨v, h1, fun l hl a ha => ?_⟩
  have := h2 (l + 1) (by omega) a ha
  show sumTo (fun b => e2 (((t.drop 1).take (i + 1)).getD l []) a b * v b) t.length % 55441 = (y.drop 1).getD l 0 * v a % 55441
  rw [Zh_ hl, aJ6]
  exact this
theorem aa9 {t : List (List (List Int))} {i : Nat} {z : Int} (h : z ∈ egV t i) : InP z := by
 have := rtL_mem.1 h
 exact ⟨this.1, by omega⟩
theorem ab0 {t : List (List (List Int))} {k : Nat} {y : List Int} (h : y ∈ Wp_ t k) : ∀ i, i < k + 1 → InP (y.getD i 0) := fun i hi => by
 obtain ⟨h1, h2, h3⟩ := chS_mem.1 h
 cases i with
 | zero => rw [h2]; exact ⟨by omega, by omega⟩
 | succ i => exact aa9 (h3 i (by omega)).1
theorem aw6 {t : List (List (List Int))} (hR : RingP t) {k : Nat} (hk : k < t.length) {y : List Int} (h : y ∈ Wp_ t k) : CV t.length (fun l => t.getD l []) (k + 1) fun l => y.getD l 0 := by
 obtain ⟨h1, h2, h3⟩ := chS_mem.1 h
 cases k with
 | zero =>
  refine ⟨fun _ => 1, ⟨0, by omega, by show (1 : Int) % 55441 ≠ 0; decide⟩, fun i hi a ha => ?_⟩
  obtain rfl : i = 0 := by omega
  show sumTo (fun b => e2 (t.getD 0 []) a b * 1) t.length % 55441 = y.getD 0 0 * 1 % 55441
  rw [h2]
  rw [xs_ (g := fun b => (if b = a then 1 else 0) * (fun _ => 1) b) fun b hb => by
    have := hR.left a ha b hb
    show e3 t 0 a b * 1 = _
    rw [this]
    unfold dl
    by_cases c : a = b
    ·rw [if_pos (by omega), if_pos c.symm]
    ·rw [if_neg (by omega), if_neg (Ne.symm c)], ws_ ha]
 | succ k =>
  have := (h3 k (by omega)).2
  rw [List.take_of_length_le (by omega)] at this
  exact (aa8 hR hk h2).1 this
theorem ab1 {t : List (List (List Int))} (hR : RingP t) {k : Nat} (hk : k < t.length) : (Wp_ t k).length ≤ t.length :=
 bi1 (Ms := fun l => t.getD l []) (k := k + 1) (Wo_ (fun _ => Wn_ _ _) k) (fun y hy => (chS_mem.1 hy).1) (fun y hy => ab0 hy) (fun y hy => aw6 hR hk hy)
theorem Rl_ {t : List (List (List Int))} (hc : Cube t) {x : List Int} (hx : ListP t x) (h : wX_ t x) {i : Nat} (hi : i < t.length) : EigL t.length (t.getD i []) (x.getD i 0) := by
 obtain ⟨v, h1, h2⟩ := Sl_ hc hx h
 exact ⟨v, h1, h2 i hi⟩
theorem Sm_ {t : List (List (List Int))} (hR : RingP t) {y : List Int} : y ∈ Wp_ t (t.length - 1) ↔ ListP t y ∧ wX_ t y := by
 have n1 := hR.cube.1
 have n16 := hR.cube.2.1
 constructor
 ·intro h
  obtain ⟨h1, h2, h3⟩ := chS_mem.1 h
  have hc := aw6 hR (by omega) h
  rw [show t.length - 1 + 1 = t.length by omega] at hc h1
  refine ⟨⟨h1, numsB_iff.2 fun i hi => ?_⟩, aJ2 hR h2 hc⟩
  exact ab0 h i (by omega)
 ·rintro ⟨hl, hC⟩
  have cv := Sl_ hR.cube hl hC
  have l1 := hl.1
  refine chS_mem.2 ⟨by omega, hC.2, fun i hi => ⟨?_, ?_⟩⟩
  ·refine rtL_mem.2 ⟨?_, ?_, ?_⟩
   ·exact (hl.inP (i + 1) (by omega)).1
   ·have := (hl.inP (i + 1) (by omega)).2
    omega
   ·exact aY7 n16 (Rl_ hR.cube hl hC (by omega))
  ·refine (aa8 hR (by omega) ?_).2 ?_
   ·rw [List.getD_eq_getElem?_getD, List.getElem?_take, if_pos (by omega), ← List.getD_eq_getElem?_getD]
    exact hC.2
   ·refine (cv.le (show i + 2 ≤ t.length by omega)).congr fun l hl2 => ?_
    show y.getD l 0 = (y.take (i + 2)).getD l 0
    rw [List.getD_eq_getElem?_getD, List.getD_eq_getElem?_getD, List.getElem?_take, if_pos hl2]
end Go.Pl
namespace Go.Pl
noncomputable def cmB (t : List (List (List Int))) (y : List Int) : Bool := decide ((hcR t.length (t.take y.length) y y.length).length < t.length)
noncomputable def grL (t : List (List (List Int))) (Vs : List (List Int)) : Nat → List Int → List (List Int)
 | 0, x => if bd (ListP t x ∧ wX_ t x) = true then [x] else []
 | m + 1, x => (Vs.getD x.length []).flatMap fun v => if cmB t (x ++ [v]) = true then grL t Vs m (x ++ [v]) else []
noncomputable def gpL (t : List (List (List Int))) (Vs : List (List Int)) (m : Nat) (x : List Int) (b : Nat) : List (List Int) := ((Vs.getD x.length []).take b).flatMap fun v => if cmB t (x ++ [v]) = true then grL t Vs m (x ++ [v]) else []
theorem Rm_ {t : List (List (List Int))} {Vs : List (List Int)} {m : Nat} {x : List Int} {b : Nat} (h : b < (Vs.getD x.length []).length) : gpL t Vs m x (b + 1) = gpL t Vs m x b ++ if cmB t (x ++ [(Vs.getD x.length []).getD b 0]) = true then grL t Vs m (x ++ [(Vs.getD x.length []).getD b 0]) else [] := by
 unfold gpL
 rw [take_snoc (d := 0) h, List.flatMap_append, List.flatMap_cons, List.flatMap_nil, List.append_nil]
theorem ab2 (t : List (List (List Int))) (Vs : List (List Int)) (m : Nat) (x : List Int) : gpL t Vs m x (Vs.getD x.length []).length = grL t Vs (m + 1) x := by
 unfold gpL
 rw [List.take_length]
 rfl
theorem aw7 (t : List (List (List Int))) (Vs : List (List Int)) (m : Nat) (x : List Int) (b : Nat) : (gpL t Vs m x b).length ≤ (grL t Vs (m + 1) x).length := by
 show (((Vs.getD x.length []).take b).flatMap _).length ≤ ((Vs.getD x.length []).flatMap _).length
 conv => rhs; rw [← List.take_append_drop b (Vs.getD x.length [])]
 rw [List.flatMap_append, List.length_append]
 omega
theorem V2_ {t : List (List (List Int))} {Vs : List (List Int)} : ∀ {m : Nat} {x y : List Int}, x.length + m = t.length → (y ∈ grL t Vs m x ↔ y.take x.length = x ∧ (ListP t y ∧ wX_ t y) ∧ ∀ i, x.length ≤ i → i < t.length → y.getD i 0 ∈ Vs.getD i [] ∧ cmB t (y.take (i + 1)) = true)
 | 0, x, y, hm => by
  show y ∈ (if bd (ListP t x ∧ wX_ t x) = true then [x] else []) ↔ _
  by_cases c : ListP t x ∧ wX_ t x
  ·rw [if_pos (zj_ c), List.mem_singleton]
   constructor
   ·rintro rfl
    exact ⟨List.take_length, c, fun i h1 h2 => by omega⟩
   ·rintro ⟨h1, h2, _⟩
    rw [← h1, List.take_of_length_le (by rw [h2.1.1]; omega)]
  ·rw [yn_ c, if_neg (by decide)]
   constructor
   ·intro h; cases h
   ·rintro ⟨h1, h2, _⟩
    exfalso
    have e : y = x := by rw [← h1, List.take_of_length_le (by rw [h2.1.1]; omega)]
    exact c (by rw [← e]; exact h2)
 | m + 1, x, y, hm => by
  show y ∈ (Vs.getD x.length []).flatMap _ ↔ _
  rw [List.mem_flatMap]
  constructor
  ·rintro ⟨v, hv, hy⟩
   by_cases c : cmB t (x ++ [v]) = true
   ·rw [if_pos c] at hy
    obtain ⟨h1, h2, h3⟩ := (V2_ (m := m) (x := x ++ [v]) (by rw [List.length_append, List.length_singleton]; omega)).1 hy
    rw [List.length_append, List.length_singleton] at h1 h3
    have ly := h2.1.1
    have ex : y.take x.length = x := by
     have := congrArg (List.take x.length) h1
     rw [List.take_take, List.take_left, show min x.length (x.length + 1) = x.length by omega] at this
     exact this
    have ev : y.getD x.length 0 = v := by
     have e := take_snoc (xs := y) (d := 0) (k := x.length) (by omega)
     rw [h1, ex] at e
     have := List.append_cancel_left e
     simpa using this.symm
    refine ⟨ex, h2, fun i a b => ?_⟩
    by_cases e : i = x.length
    ·subst e
     rw [ev, h1]
     exact ⟨hv, c⟩
    ·exact h3 i (by omega) b
   ·rw [if_neg c] at hy; cases hy
  ·rintro ⟨h1, h2, h3⟩
   have ly := h2.1.1
   have e : y.take (x.length + 1) = x ++ [y.getD x.length 0] := by rw [take_snoc (d := 0) (by omega), h1]
   have a := h3 x.length (Nat.le_refl _) (by omega)
   rw [e] at a
   refine ⟨y.getD x.length 0, a.1, ?_⟩
   rw [if_pos a.2]
   refine (V2_ (m := m) (by rw [List.length_append, List.length_singleton]; omega)).2 ⟨?_, h2, fun i b c => h3 i (by rw [List.length_append, List.length_singleton] at b; omega) c⟩
   rw [List.length_append, List.length_singleton, e]
theorem Th_ {t : List (List (List Int))} {Vs : List (List Int)} (hV : ∀ i, (Vs.getD i []).Nodup) : ∀ {m : Nat} {x : List Int}, x.length + m = t.length → (grL t Vs m x).Nodup
 | 0, x, _ => by
  show (if bd (ListP t x ∧ wX_ t x) = true then [x] else []).Nodup
  split <;> simp
 | m + 1, x, hm => by
  show ((Vs.getD x.length []).flatMap _).Nodup
  refine flat_nodup2 (hV _) (fun v _ => ?_) fun v _ v' _ y h1 h2 => ?_
  ·split
   ·exact Th_ hV (by rw [List.length_append, List.length_singleton]; omega)
   ·exact List.nodup_nil
  ·have g : ∀ v, y ∈ (if cmB t (x ++ [v]) = true then grL t Vs m (x ++ [v]) else []) → y.take (x.length + 1) = x ++ [v] := fun v h => by
    by_cases c : cmB t (x ++ [v]) = true
    ·rw [if_pos c] at h
     have := ((V2_ (m := m) (x := x ++ [v]) (by rw [List.length_append, List.length_singleton]; omega)).1 h).1
     rw [List.length_append, List.length_singleton] at this
     exact this
    ·rw [if_neg c] at h; cases h
   have e := (g v h1).symm.trans (g v' h2)
   have := List.append_cancel_left e
   simpa using this
where flat_nodup2 {f : Int → List (List Int)} : ∀ {L : List Int}, L.Nodup → (∀ x ∈ L, (f x).Nodup) → (∀ x ∈ L, ∀ x' ∈ L, ∀ y, y ∈ f x → y ∈ f x' → x = x') → (L.flatMap f).Nodup
 | [], _, _, _ => List.nodup_nil
 | x :: L, h, h1, h2 => by
  rw [List.flatMap_cons, List.nodup_append]
  have hn := List.nodup_cons.1 h
  refine ⟨h1 x (List.mem_cons_self ..), flat_nodup2 hn.2 (fun z hz => h1 z (List.mem_cons_of_mem _ hz)) (fun z hz z' hz' => h2 z (List.mem_cons_of_mem _ hz) z' (List.mem_cons_of_mem _ hz')), fun a ha b hb e => ?_⟩
  subst e
  obtain ⟨z, hz, hz2⟩ := List.mem_flatMap.1 hb
  have := h2 x (List.mem_cons_self ..) z (List.mem_cons_of_mem _ hz) a ha hz2
  subst this
  exact hn.1 hz
noncomputable def rfV (t : List (List (List Int))) (i : Nat) : List Int := rtL (chL t.length (t.getD i [])) 55441
noncomputable def V3_ (t : List (List (List Int))) : List (List Int) := (List.range t.length).map (rfV t)
theorem V4_ {t : List (List (List Int))} {i : Nat} (h : i < t.length) : (V3_ t).getD i [] = rfV t i := by
 unfold V3_
 rw [List.getD_eq_getElem?_getD, List.getElem?_map, List.getElem?_range h, Option.map_some, Option.getD_some]
theorem QJ_ {t : List (List (List Int))} (i : Nat) : ((V3_ t).getD i []).Nodup := by
 by_cases h : i < t.length
 ·rw [V4_ h]; exact Wn_ _ _
 ·rw [List.getD_eq_getElem?_getD, List.getElem?_eq_none (by unfold V3_; rw [List.length_map, List.length_range]; omega)]
  exact List.nodup_nil
theorem ab3 {t : List (List (List Int))} (hR : RingP t) {y : List Int} : y ∈ grL t (V3_ t) t.length [] ↔ ListP t y ∧ wX_ t y := by
 have n16 := hR.cube.2.1
 rw [V2_ (by show 0 + t.length = t.length; omega)]
 constructor
 ·exact fun h => h.2.1
 ·rintro ⟨hl, hC⟩
  refine ⟨rfl, ⟨hl, hC⟩, fun i _ hi => ⟨?_, ?_⟩⟩
  ·rw [V4_ hi]
   have p := hl.inP i hi
   refine rtL_mem.2 ⟨p.1, by have := p.2; omega, ?_⟩
   exact aY9 (Zi_ hR.cube hi) (Rl_ hR.cube hl hC hi)
  ·unfold cmB
   have lt : (y.take (i + 1)).length = i + 1 := by rw [List.length_take, hl.1]; omega
   rw [lt, decide_eq_true_iff]
   have gt : ∀ l, l < i + 1 → (t.take (i + 1)).getD l [] = t.getD l [] := fun l h => by
    rw [List.getD_eq_getElem?_getD, List.getElem?_take, if_pos h, ← List.getD_eq_getElem?_getD]
   refine (aw4 (fun l hl2 => by rw [gt l hl2]; exact Zi_ hR.cube (by omega))).2 ?_
   obtain ⟨v, h1, h2⟩ := Sl_ hR.cube hl hC
   refine ⟨v, h1, fun l hl2 a ha => ?_⟩
   have := h2 l (by omega) a ha
   show sumTo (fun b => e2 ((t.take (i + 1)).getD l []) a b * v b) t.length % 55441 = (y.take (i + 1)).getD l 0 * v a % 55441
   rw [gt l hl2, List.getD_eq_getElem?_getD (l := y.take (i + 1)), List.getElem?_take, if_pos hl2, ← List.getD_eq_getElem?_getD]
   exact this
theorem ab4 {t : List (List (List Int))} (hR : RingP t) : (grL t (V3_ t) t.length []).length = (Wp_ t (t.length - 1)).length := by
 have h1 := Th_ (t := t) (Vs := V3_ t) (m := t.length) (x := []) QJ_ (by show 0 + t.length = t.length; omega)
 have h2 : (Wp_ t (t.length - 1)).Nodup := Wo_ (fun _ => Wn_ _ _) _
 have a := aJ3 h1 fun x hx => (Sm_ hR).2 ((ab3 hR).1 hx)
 have b := aJ3 h2 fun x hx => (ab3 hR).2 ((Sm_ hR).1 hx)
 omega
end Go.Pl
