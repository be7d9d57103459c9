import Derived.Test.YtkkgmjclfclaoaaPlV
import Derived.Test.YtkkgmjclfclaoaaPlT
set_option linter.unusedSimpArgs false
set_option linter.unusedVariables false
namespace Go.Pl
open Go.Aw
def cubG (n : Nat) (f : Nat → Nat → Nat → Int) : List (List (List Int)) := (List.range n).map fun u => matF n n (f u)
theorem cubG_length {n : Nat} {f : Nat → Nat → Nat → Int} : (cubG n f).length = n := by simp [cubG]
theorem cubG_get {n : Nat} {f : Nat → Nat → Nat → Int} {i : Nat} (h : i < n) : (cubG n f).getD i [] = matF n n (f i) := by simp [cubG, List.getD, h]
theorem cubG_congr {n : Nat} {f g : Nat → Nat → Nat → Int} (h : ∀ i, i < n → ∀ j, j < n → ∀ k, k < n → f i j k = g i j k) : cubG n f = cubG n g :=
  List.map_congr_left fun i hi => matF_congr fun j hj k hk => h i (by simpa using hi) j hj k hk
theorem cubG_set {n : Nat} {f : Nat → Nat → Nat → Int} {i j k : Nat} {v : Int} (hi : i < n) (hj : j < n) :
    (cubG n f).set i (((cubG n f).getD i []).set j ((((cubG n f).getD i []).getD j []).set k v)) = cubG n (fun x y z => if x = i ∧ y = j ∧ z = k then v else f x y z) := by
  rw [cubG_get hi, matF_set hj]
  refine ext_getD (d := []) (by rw [List.length_set, cubG_length, cubG_length]) (fun x hx => ?_)
  rw [List.length_set, cubG_length] at hx
  rw [cubG_get hx]
  by_cases e : i = x
  · subst e
    rw [List.getD_eq_getElem?_getD, List.getElem?_set_self (by rw [cubG_length]; exact hi), Option.getD_some]
    exact matF_congr fun y _ z _ => by
      by_cases c : y = j ∧ z = k
      · rw [if_pos c, if_pos ⟨rfl, c⟩]
      · rw [if_neg c, if_neg (fun h => c h.2)]
  · rw [List.getD_eq_getElem?_getD, List.getElem?_set_ne e, ← List.getD_eq_getElem?_getD, cubG_get hx]
    exact matF_congr fun y _ z _ => by rw [if_neg (fun h => e h.1.symm)]
theorem mat_of {n : Nat} {m : List (List Int)} (h : MatOk n m) : m = matF n n (e2 m) := by
  refine ext_getD (d := []) (by rw [matF_length]; exact h.1) (fun i hi => ?_)
  rw [h.1] at hi
  rw [matF_get hi]
  refine ext_getD (d := 0) (by rw [rowF_length]; exact h.row hi) (fun j hj => ?_)
  rw [h.row hi] at hj
  rw [rowF_get hj]
theorem cub_of {t : List (List (List Int))} (h : Cube t) : t = cubG t.length (fun i j k => e3 t i j k) := by
  refine ext_getD (d := []) cubG_length.symm (fun i hi => ?_)
  rw [cubG_get hi]
  exact mat_of (h.2.2 i hi)
theorem cubG_cube {n : Nat} {f : Nat → Nat → Nat → Int} (h1 : 1 ≤ n) (h16 : n ≤ 16) (h : ∀ i, i < n → ∀ j, j < n → ∀ k, k < n → InM (f i j k)) : Cube (cubG n f) := by
  refine ⟨by rw [cubG_length]; exact h1, by rw [cubG_length]; exact h16, fun i hi => ?_⟩
  rw [cubG_length] at hi ⊢
  rw [cubG_get hi]
  refine ⟨matF_length .., fun j hj => ?_⟩
  rw [matF_get hj]
  exact ⟨rowF_length .., fun k hk => by rw [rowF_get hk]; exact h i hi j hj k hk⟩
theorem cubG_Sh {n : Nat} {f : Nat → Nat → Nat → Int} : Sh n n (cubG n f) :=
  ⟨cubG_length, fun m hm => by
    simp only [cubG, List.mem_map, List.mem_range] at hm
    obtain ⟨k, _, rfl⟩ := hm
    exact matF_Sh⟩
theorem Cube.sh {t : List (List (List Int))} (h : Cube t) : Sh t.length t.length t := by
  have h2 := cubG_Sh (n := t.length) (f := fun i j k => e3 t i j k)
  rwa [← cub_of h] at h2
def imF (t : List (List (List Int))) (p : List Int) (u v w : Nat) : Int := e3 t (pos p u) (pos p v) (pos p w)
def imC (t : List (List (List Int))) (n : Nat) (p : List Int) : List (List (List Int)) := cubG n (imF t p)
def befor (a b c i j k : Nat) : Prop := a < i ∨ (a = i ∧ (b < j ∨ (b = j ∧ c < k)))
instance (a b c i j k : Nat) : Decidable (befor a b c i j k) := by unfold befor; infer_instance
def wC (t : List (List (List Int))) (n : Nat) (p : List Int) (g : Nat → Nat → Nat → Int) (i j k : Nat) : List (List (List Int)) :=
  cubG n (fun u v w => if befor (pos p u) (pos p v) (pos p w) i j k then imF t p u v w else g u v w)
theorem wC_zero {t : List (List (List Int))} {n : Nat} {p : List Int} {g : Nat → Nat → Nat → Int} : cubG n g = wC t n p g 0 0 0 :=
  cubG_congr fun i _ j _ k _ => by rw [if_neg (by unfold befor; omega)]
theorem wC_set {t : List (List (List Int))} {n : Nat} {p : List Int} {g : Nat → Nat → Nat → Int} (h : IsP n p) {i j k : Nat} (hi : i < n) (hj : j < n) (hk : k < n) :
    (wC t n p g i j k).set (p.getD i 0).toNat (((wC t n p g i j k).getD (p.getD i 0).toNat []).set (p.getD j 0).toNat ((((wC t n p g i j k).getD (p.getD i 0).toNat []).getD (p.getD j 0).toNat []).set (p.getD k 0).toNat (e3 t i j k))) = wC t n p g i j (k + 1) := by
  have bi := h.q i (by rw [h.len]; exact hi)
  have bj := h.q j (by rw [h.len]; exact hj)
  have bk := h.q k (by rw [h.len]; exact hk)
  unfold wC
  rw [cubG_set (by omega) (by omega)]
  refine cubG_congr fun x hx y hy z hz => ?_
  have ex := h.pos_iff hx hi
  have ey := h.pos_iff hy hj
  have ez := h.pos_iff hz hk
  by_cases c : x = (p.getD i 0).toNat ∧ y = (p.getD j 0).toNat ∧ z = (p.getD k 0).toNat
  · have e1 : pos p x = i := ex.2 (by omega)
    have e2' : pos p y = j := ey.2 (by omega)
    have e3' : pos p z = k := ez.2 (by omega)
    rw [if_pos c, if_pos (by unfold befor; omega)]
    unfold imF
    rw [e1, e2', e3']
  · rw [if_neg c]
    have hne : ¬ (pos p x = i ∧ pos p y = j ∧ pos p z = k) := fun hh => c ⟨by have := ex.1 hh.1; omega, by have := ey.1 hh.2.1; omega, by have := ez.1 hh.2.2; omega⟩
    by_cases c2 : befor (pos p x) (pos p y) (pos p z) i j k
    · rw [if_pos c2, if_pos (by unfold befor at *; omega)]
    · rw [if_neg c2, if_neg (by unfold befor at *; omega)]
theorem wC_row {t : List (List (List Int))} {n : Nat} {p : List Int} {g : Nat → Nat → Nat → Int} (h : IsP n p) {i j : Nat} : wC t n p g i j n = wC t n p g i (j + 1) 0 :=
  cubG_congr fun x _ y _ z hz => by
    have := (h.pos_ok hz).1
    by_cases c : befor (pos p x) (pos p y) (pos p z) i j n
    · rw [if_pos c, if_pos (by unfold befor at *; omega)]
    · rw [if_neg c, if_neg (by unfold befor at *; omega)]
theorem wC_mat {t : List (List (List Int))} {n : Nat} {p : List Int} {g : Nat → Nat → Nat → Int} (h : IsP n p) {i : Nat} : wC t n p g i n 0 = wC t n p g (i + 1) 0 0 :=
  cubG_congr fun x _ y hy z _ => by
    have := (h.pos_ok hy).1
    by_cases c : befor (pos p x) (pos p y) (pos p z) i n 0
    · rw [if_pos c, if_pos (by unfold befor at *; omega)]
    · rw [if_neg c, if_neg (by unfold befor at *; omega)]
theorem wC_end {t : List (List (List Int))} {n : Nat} {p : List Int} {g : Nat → Nat → Nat → Int} (h : IsP n p) : wC t n p g n 0 0 = imC t n p :=
  cubG_congr fun x hx y _ z _ => by
    have := (h.pos_ok hx).1
    rw [if_pos (by unfold befor; omega)]
theorem imC_cube {t : List (List (List Int))} {p : List Int} (ht : Cube t) (h : IsP t.length p) : Cube (imC t t.length p) :=
  cubG_cube ht.1 ht.2.1 fun _ hi _ hj _ hk => ht.inM (h.pos_ok hi).1 (h.pos_ok hj).1 (h.pos_ok hk).1
def visR (t : List (List (List Int))) (n : Nat) (p : List Int) (s : Option (List (List (List Int)))) : Option (List (List (List Int))) :=
  if lt3 (imC t n p) (s.getD t) = true then some (imC t n p) else s
theorem visR_fold {t : List (List (List Int))} {n : Nat} : ∀ (ps : List (List Int)) (s : Option (List (List (List Int)))), (ps.foldl (fun s q => visR t n q s) s).getD t = (ps.map (imC t n)).foldl (better lt3) (s.getD t)
  | [], _ => rfl
  | p :: ps, s => by
    rw [List.foldl_cons, List.map_cons, List.foldl_cons, visR_fold ps]
    congr 1
    unfold visR better
    split <;> rfl
def ordersL (n : Nat) : List (List Int) := permsF n (n - 1) [0]
def leastR (t : List (List (List Int))) : List (List (List Int)) := ((ordersL t.length).map (imC t t.length)).foldl (better lt3) t
theorem leastR_eq {t : List (List (List Int))} : (ordS (visR t t.length) t.length (t.length - 1) [0] none).getD t = leastR t := by
  rw [ordS_fold, visR_fold]
  rfl
theorem orders_isP {n : Nat} (h : 1 ≤ n) : ∀ q ∈ ordersL n, IsP n q := perms_isP (n - 1) [0] (by simp; omega) (QOk.one (y := 0) (by omega)) (by simp)
theorem fold_better_cube {t : List (List (List Int))} (ht : Cube t) : ∀ (ps : List (List Int)) (M : List (List (List Int))), (∀ q ∈ ps, IsP t.length q) → Cube M ∧ M.length = t.length → Cube ((ps.map (imC t t.length)).foldl (better lt3) M) ∧ ((ps.map (imC t t.length)).foldl (better lt3) M).length = t.length
  | [], M, _, h => h
  | p :: ps, M, hp, h => by
    rw [List.map_cons, List.foldl_cons]
    refine fold_better_cube ht ps _ (fun q hq => hp q (List.mem_cons_of_mem _ hq)) ?_
    unfold better
    split
    · exact ⟨imC_cube ht (hp p (List.mem_cons_self ..)), cubG_length⟩
    · exact h
theorem leastR_cube {t : List (List (List Int))} (ht : Cube t) : Cube (leastR t) ∧ (leastR t).length = t.length := fold_better_cube ht _ t (orders_isP ht.1) ⟨ht, rfl⟩
theorem opp_cube {t : List (List (List Int))} (h : Cube t) : Cube (oppL t t.length) := by
  refine ⟨by rw [oppL_length]; exact h.1, by rw [oppL_length]; exact h.2.1, fun i hi => ?_⟩
  rw [oppL_length] at hi ⊢
  rw [oppL_get hi]
  refine ⟨oppR_length, fun j hj => ?_⟩
  rw [oppR_get hj]
  exact (h.2.2 j hj).2 i hi
theorem opp_opp {t : List (List (List Int))} (h : Cube t) : oppL (oppL t t.length) (oppL t t.length).length = t := by
  rw [oppL_length]
  refine ext_getD (d := []) oppL_length (fun i hi => ?_)
  rw [oppL_length] at hi
  rw [oppL_get hi, oppL_length]
  refine ext_getD (d := []) (by rw [oppR_length]; exact (h.2.2 i hi).1.symm) (fun j hj => ?_)
  rw [oppR_length] at hj
  rw [oppR_get hj, oppL_get hj, oppR_get hi]
noncomputable def lrA (t : List (List (List Int))) : AV := if isRing t = true then (if t.length ≤ 7 then .tup [.agg [.l3 (leastR t)], .int 0] else .tup [.agg [.nil], .int 3]) else .tup [.agg [.nil], .int 1]
def visO (p : List Int) (s : Option (List (List Int))) : Option (List (List Int)) := some (s.getD [] ++ [p])
theorem visO_fold : ∀ (ps : List (List Int)) (L : List (List Int)), ps.foldl (fun s q => visO q s) (some L) = some (L ++ ps)
  | [], L => by simp
  | p :: ps, L => by
    rw [List.foldl_cons]
    show ps.foldl (fun s q => visO q s) (some (L ++ [p])) = _
    rw [visO_fold ps, List.append_assoc]
    rfl
theorem orders_eq {n : Nat} (h : 1 ≤ n) : ordS visO n (n - 1) [0] none = some (ordersL n) := by
  rw [ordS_fold]
  have hid := isP_perms (idP_isP n) (n - 1) (by omega)
  have e : (idP n).take (n - (n - 1)) = [0] := by
    obtain ⟨m, rfl⟩ : ∃ m, n = m + 1 := ⟨n - 1, by omega⟩
    have : m + 1 - (m + 1 - 1) = 1 := by omega
    rw [this]
    simp [idP, List.range_succ_eq_map]
  rw [e] at hid
  unfold ordersL
  cases hp : permsF n (n - 1) [0] with
  | nil => rw [hp] at hid; simp at hid
  | cons p ps =>
    rw [List.foldl_cons]
    show ps.foldl (fun s q => visO q s) (some ([] ++ [p])) = _
    rw [visO_fold]
    rfl
theorem ordS_len {n : Nat} : ∀ d p s, ((ordS visO n d p s).getD []).length ≤ (s.getD []).length + n ^ d
  | 0, p, s => by
    show ((some (s.getD [] ++ [p])).getD []).length ≤ _
    simp
  | d + 1, p, s => by
    have key : ∀ x s, ((ordF visO n d p s x).getD []).length ≤ (s.getD []).length + x * n ^ d := by
      intro x
      induction x with
      | zero => intro s; rw [ordF_zero]; omega
      | succ x ih =>
        intro s
        have h1 := ih s
        rw [ordF_step, Nat.succ_mul]
        split
        · omega
        · have h2 := ordS_len (n := n) d (p ++ [(x : Int)]) (ordF visO n d p s x)
          omega
    have h := key n s
    rw [ordS_succ, Nat.pow_succ, Nat.mul_comm]
    exact h
theorem ordF_len {n d : Nat} {p : List Int} {s : Option (List (List Int))} : ∀ x, ((ordF visO n d p s x).getD []).length ≤ (s.getD []).length + x * n ^ d
  | 0 => by rw [ordF_zero]; omega
  | x + 1 => by
    have h1 := ordF_len (n := n) (d := d) (p := p) (s := s) x
    rw [ordF_step, Nat.succ_mul]
    split
    · omega
    · have h2 := ordS_len (n := n) d (p ++ [(x : Int)]) (ordF visO n d p s x)
      omega
theorem pow_bd {n : Nat} (h : n ≤ 7) : n ^ (n - 1) ≤ 1000000 := by
  have : ∀ n, n < 8 → n ^ (n - 1) ≤ 1000000 := by decide
  exact this n (by omega)
theorem cub_wC {t : List (List (List Int))} {p : List Int} (h : Cube t) : t = wC t t.length p (fun i j k => e3 t i j k) 0 0 0 := by
  rw [← wC_zero]
  exact cub_of h
end Go.Pl
