import Derived.Test.YtjpdkdepbkmebaaGreatLib6
import Derived.Test.YtjpdkdepbkmebaaGreatLib1
set_option linter.unusedSimpArgs false
set_option linter.unusedVariables false
namespace Go.Aw
open Go.RowKit
section
variable {P : Program} {ops : Array Oper} {n : Nat} {own : List Nat} {st : St} {K : St → Prop} {p : Plan} {cx : Cx} {Q : SQ} {cs : List Code}
end
end Go.Aw
namespace Go.Aw
open Go.RowKit
def frzV (H : List (Nat × Tree)) (R : List Nat) : AV → AV
 | .ref i [] => if R.contains i then (match find H i with
  | some (.t1 xs) => .l1 xs
  | some (.t2 xs) => .l2 xs
  | some (.t3 xs) => .l3 xs
  | some (.r2 xs) => .l2 xs
  | some (.r3 xs) => .l3 xs
  | some (.a3 xs σ) => .l3 (σ.map fun k => xs.getD k [])
  | some (.lv vs) => .lv (killAs (qOf R []) vs)
  | some (.tp ps) => .lp ps none
  | some (.tq xs _) => .l2 xs
  | _ => .junk) else .ref i []
 | v => killA (qOf R []) v
section
variable {P : Program} {cx : Cx} {n : Nat} {H : List (Nat × Tree)} {w : World} {ι : Nat → Value} {F : Nat → List Nat}
theorem frzV_rep (ho : Owns cx H w ι F) {R : List Nat} : ∀ (av : AV) (u : Value), rep (mem cx w H ι F) av u → rep (mem cx w (killH (qOf R []) (rmT R H)) ι F) (frzV H R av) u := by
 have hd : ∀ (av : AV) (u : Value), rep (mem cx w H ι F) av u → rep (mem cx w (killH (qOf R []) (rmT R H)) ι F) (killA (qOf R []) av) u := fun av u h => (ho.drop R).2 av u h
 intro av u h
 unfold frzV
 split
 ·rename_i i
  split
  ·rename_i hc
   have hi : i ∈ R := by simpa using hc
   simp only [rep, mem, pathV, Option.some.injEq] at h
   split
   ·rename_i xs hf
    have ht := ho.trees _ (find_mem hf)
    simp only [treeRep, mem] at ht
    rw [h.2] at ht
    simp only [rep]
    exact ht.l1 ((frz_imm ho).2 i _ hi hf)
   ·rename_i xs hf
    have ht := ho.trees _ (find_mem hf)
    simp only [treeRep, mem] at ht
    rw [h.2] at ht
    simp only [rep]
    exact ht.l2 ((frz_imm ho).2 i _ hi hf)
   ·rename_i xs hf
    have ht := ho.trees _ (find_mem hf)
    simp only [treeRep, mem] at ht
    rw [h.2] at ht
    simp only [rep]
    exact ht.l3 ((frz_imm ho).2 i _ hi hf)
   ·rename_i xs hf
    have ht := ho.trees _ (find_mem hf)
    simp only [treeRep, mem] at ht
    rw [h.2] at ht
    obtain ⟨us, h1, h2⟩ := ht
    simp only [rep]
    exact L2.le (fun b hb => ⟨hb, rfl⟩) ⟨us, h1.slC ((frz_imm ho).2 i _ hi hf), All2.mono (fun a b h3 => L1.le (fun b hb => ⟨(frz_imm ho).1 b hb, rfl⟩) h3) h2⟩
   ·rename_i xs hf
    have ht := ho.trees _ (find_mem hf)
    simp only [treeRep, mem] at ht
    rw [h.2] at ht
    obtain ⟨us, h1, h2⟩ := ht
    simp only [rep]
    exact L3.le (fun b hb => ⟨hb, rfl⟩) ⟨us, h1.slC ((frz_imm ho).2 i _ hi hf), All2.mono (fun a b h3 => L2.le (fun b hb => ⟨(frz_imm ho).1 b hb, rfl⟩) h3) h2⟩
   ·rename_i xs σ hf
    have ht := ho.trees _ (find_mem hf)
    simp only [treeRep, mem] at ht
    rw [h.2] at ht
    obtain ⟨rows, f0, fs, h1, h2, h3, h4⟩ := ht
    simp only [rep]
    have hS := (frz_imm ho).2 i _ hi hf
    refine ⟨_, h1.slC (fun b hb => hS b (by simp [h4, hb])), ?_⟩
    refine All2.of_get (by simp) (fun j a u' ha hu => ?_)
    rw [List.getElem?_map] at ha hu
    cases hs : σ[j]? with
    | none => rw [hs] at ha; cases ha
    | some k =>
     rw [hs] at ha hu
     simp only [Option.map_some, Option.some.injEq] at ha hu
     subst ha
     subst hu
     have hk : k < xs.length := h3 k (List.mem_of_getElem? hs)
     obtain ⟨f, c, hff, hc, hr⟩ := h2.get k _ (getD_some (d := []) hk)
     rw [hc]
     exact O2.l2 hr (fun b hb => hS b (by simp only [h4, List.mem_append, List.mem_flatten]; exact .inr ⟨f, List.mem_of_getElem? hff, hb⟩))
   ·rename_i vs hf
    have ht := ho.trees _ (find_mem hf)
    simp only [treeRep, mem] at ht
    rw [h.2] at ht
    obtain ⟨us, h1, h2⟩ := ht
    have h3 := (ho.drop R).2 (.agg vs) (.agg us.toArray) (by simp only [rep]; exact ⟨us, rfl, h2⟩)
    simp only [killA, rep] at h3
    obtain ⟨us', e, h3⟩ := h3
    obtain rfl : us = us' := by simpa using e
    simp only [rep]
    exact ⟨us, h1.slC ((frz_imm ho).2 i _ hi hf), h3⟩
   ·rename_i ps hf
    have ht := ho.trees _ (find_mem hf)
    simp only [treeRep, mem] at ht
    rw [h.2] at ht
    simp only [rep]
    exact OwnP.slP ht ((frz_imm ho).2 i _ hi hf)
   ·rename_i xs L hf
    have ht := ho.trees _ (find_mem hf)
    simp only [treeRep, mem] at ht
    rw [h.2] at ht
    simp only [rep]
    exact ht.1.l2 ((frz_imm ho).2 i _ hi hf)
   ·simp only [rep]
  ·rename_i hc
   have hq : qOf R [] i [] = false := by simpa [qOf] using hc
   have := hd (.ref i []) u h
   simpa only [killA, hq, Bool.false_eq_true, if_false] using this
 ·exact hd _ u h
end
end Go.Aw
namespace Go.Aw
open Go.RowKit
section
variable {P : Program} {ops : Array Oper} {n : Nat} {st : St} {K : St → Prop} {cx : Cx} {Q : SQ} {cs : List Code}
end
end Go.Aw
namespace Go.Aw
open Go.RowKit
def frzW (H : List (Nat × Tree)) (R : List Nat) : AV → AV
 | .sub i [] lo hi => if R.contains i then (cutData lo hi (frzV H R (.ref i []))).getD .junk else .sub i [] lo hi
 | v => frzV H R v
def frzT (H : List (Nat × Tree)) (R : List Nat) : Tree → Tree
 | .bx vs => .bx (vs.map (frzW H R))
 | .lv vs => .lv (vs.map (frzW H R))
 | .mx x i j u v => .mx x i j (frzW H R u) (frzW H R v)
 | t => t
theorem frzT_e (H : List (Nat × Tree)) (R : List Nat) : (∀ x, frzT H R (.t1 x) = .t1 x) ∧ (∀ x, frzT H R (.t2 x) = .t2 x) ∧ (∀ x, frzT H R (.t3 x) = .t3 x) ∧ (∀ x, frzT H R (.r2 x) = .r2 x) ∧ (∀ x, frzT H R (.r3 x) = .r3 x) ∧ (∀ x s, frzT H R (.a3 x s) = .a3 x s) ∧ (∀ x, frzT H R (.tp x) = .tp x) ∧ (∀ x L, frzT H R (.tq x L) = .tq x L) ∧ (∀ x i j u v, frzT H R (.mx x i j u v) = .mx x i j (frzW H R u) (frzW H R v)) ∧ (∀ vs, frzT H R (.lv vs) = .lv (vs.map (frzW H R))) ∧ (∀ vs, frzT H R (.bx vs) = .bx (vs.map (frzW H R))) :=
 ⟨fun _ => rfl, fun _ => rfl, fun _ => rfl, fun _ => rfl, fun _ => rfl, fun _ _ => rfl, fun _ => rfl, fun _ _ => rfl, fun _ _ _ _ _ => rfl, fun _ => rfl, fun _ => rfl⟩
def frzH (H : List (Nat × Tree)) (R : List Nat) : List (Nat × Tree) := (rmT R H).map fun p => (p.1, frzT H R p.2)
section
variable {P : Program} {cx : Cx} {n : Nat} {H : List (Nat × Tree)} {w : World} {ι : Nat → Value} {F : Nat → List Nat}
theorem frzW_rep (ho : Owns cx H w ι F) {R : List Nat} (av : AV) (u : Value) (h : rep (mem cx w H ι F) av u) : rep (mem cx w (killH (qOf R []) (rmT R H)) ι F) (frzW H R av) u := by
 unfold frzW
 split
 ·rename_i i lo hi
  split
  ·rename_i hc
   simp only [rep] at h
   obtain ⟨hd, a, k, cap, a', h1, h2, h3, h4, h5, rfl⟩ := h
   cases hx : cutData lo hi (frzV H R (.ref i [])) with
   | none => simp only [Option.getD_none, rep]
   | some d =>
    simp only [Option.getD_some]
    have hr : rep (mem cx w H ι F) (.ref i []) (.slice a k cap) := by
     simp only [rep]
     exact ⟨hd, h1⟩
    exact cut_rep hx (frzV_rep ho _ _ hr) h2 h3 h5
  ·rename_i hc
   have hq : qOf R [] i [] = false := by simpa [qOf] using hc
   have := (ho.drop R).2 (.sub i [] lo hi) u h
   simpa only [killA, hq, Bool.false_eq_true, if_false] using this
 ·exact frzV_rep ho _ _ h
theorem live_frz {R : List Nat} {k : Nat} {p : List Nat} : ∀ {l : List (Nat × Tree)}, livePath (find (l.map fun p => (p.1, frzT H R p.2)) k) p = livePath (find l k) p
 | [] => rfl
 | (j, x) :: r => by
  simp only [List.map_cons, find]
  split
  ·cases x <;> first | rfl | (cases p <;> rfl)
  ·exact live_frz
theorem slotGet_mapW (R : List Nat) : ∀ (s : List (Nat × AV)) (k : Nat), slotGet (s.map fun p => (p.1, frzW H R p.2)) k = frzW H R (slotGet s k)
 | [], k => rfl
 | (j, v) :: s, k => by
  simp only [List.map_cons, slotGet]
  split
  ·rfl
  ·exact slotGet_mapW R s k
theorem frzB_owns (ho : Owns cx H w ι F) (R : List Nat) : Owns cx (frzH H R) w ι F ∧ ∀ av u, rep (mem cx w H ι F) av u → rep (mem cx w (frzH H R) ι F) (frzW H R av) u := by
 obtain ⟨k1, k2⟩ := ho.drop R
 have ef : foot (frzH H R) F = foot (killH (qOf R []) (rmT R H)) F := by
  rw [foot_killH]
  simp [foot, frzH, Function.comp_def]
 have hle : (mem cx w (killH (qOf R []) (rmT R H)) ι F).le (mem cx w (frzH H R) ι F) := by
  refine ⟨fun b hb => ⟨⟨hb.1, hb.2.1, by rw [ef]; exact hb.2.2⟩, rfl⟩, fun i p hd => ⟨?_, rfl, fun v hv => hv⟩⟩
  simp only [mem] at hd ⊢
  unfold frzH
  rw [live_frz]
  rw [find_killH, livePath_kill] at hd
  exact hd
 have hW : ∀ av u, rep (mem cx w H ι F) av u → rep (mem cx w (frzH H R) ι F) (frzW H R av) u := fun av u h => rep.le hle _ _ (frzW_rep ho av u h)
 refine ⟨⟨k1.keep, fun p hp => ?_, by rw [ef]; exact k1.nodup, by rw [ef]; exact k1.mine, ?_, k1.old⟩, hW⟩
 ·simp only [frzH, List.mem_map] at hp
  obtain ⟨q, hq, rfl⟩ := hp
  have ho1 := ho.trees q (mem_rmT.1 hq).1
  have kt := k1.trees (q.1, killT (qOf R []) q.2) (List.mem_map.2 ⟨q, hq, rfl⟩)
  obtain ⟨i, t⟩ := q
  have hmap : ∀ (vs : List AV) (us : List Value), reps (mem cx w H ι F) vs us → reps (mem cx w (frzH H R) ι F) (vs.map (frzW H R)) us := by
   intro vs
   induction vs with
   | nil => intro us h; simpa only [reps, List.map_nil] using h
   | cons a as ih =>
    intro us h
    simp only [reps, List.map_cons] at h ⊢
    obtain ⟨u, us', rfl, h1, h2⟩ := h
    exact ⟨u, us', rfl, hW a u h1, ih us' h2⟩
  cases t with
  | bx vs =>
   obtain ⟨b, us, E, h1, h2, h3, h4⟩ := ho1
   exact ⟨b, us, E, h1, h2, h3, hmap vs us h4⟩
  | lv vs =>
   obtain ⟨us, h1, h2⟩ := ho1
   exact ⟨us, h1, hmap vs us h2⟩
  | mx x i j p q =>
   obtain ⟨us, f0, fs, h1, h2, h3, h4, h5, h6, h7⟩ := ho1
   exact ⟨us, f0, fs, h1, h2, h3, h4, h5, fun y hy => hW _ _ (h6 y hy), fun y hy => hW _ _ (h7 y hy)⟩
  | t1 xs => exact treeRep.le hle (fun _ _ => rfl) kt
  | tp xs => exact treeRep.le hle (fun _ _ => rfl) kt
  | t2 xs => exact treeRep.le hle (fun _ _ => rfl) kt
  | tq xs L => exact treeRep.le hle (fun _ _ => rfl) kt
  | t3 xs => exact treeRep.le hle (fun _ _ => rfl) kt
  | r2 xs => exact treeRep.le hle (fun _ _ => rfl) kt
  | r3 xs => exact treeRep.le hle (fun _ _ => rfl) kt
  | a3 xs s => exact treeRep.le hle (fun _ _ => rfl) kt
 ·have e : Aw.ids (frzH H R) = Aw.ids (rmT R H) := by simp [Aw.ids, frzH]
  rw [e]
  exact ids_rmT ho.ids
theorem ghost_frzB (R : List Nat) {s : List (Nat × AV)} : Ghost cx n ⟨s, H⟩ ⟨s.map fun p => (p.1, frzW H R p.2), frzH H R⟩ := by
 intro tmps w ⟨hsz, ι, F, ho, hr⟩
 obtain ⟨k1, hW⟩ := frzB_owns ho R
 refine ⟨hsz, ι, F, k1, fun k => ?_⟩
 show rep _ (slotGet (s.map fun p => (p.1, frzW H R p.2)) k) _
 rw [slotGet_mapW]
 exact hW _ _ (hr k)
end
end Go.Aw
namespace Go.Aw
open Go.RowKit
theorem rnT_e (σ : Nat → Nat) : (∀ x, rnT σ (.t1 x) = .t1 x) ∧ (∀ x, rnT σ (.t2 x) = .t2 x) ∧ (∀ x, rnT σ (.t3 x) = .t3 x) ∧ (∀ x, rnT σ (.r2 x) = .r2 x) ∧ (∀ x, rnT σ (.r3 x) = .r3 x) ∧ (∀ x s, rnT σ (.a3 x s) = .a3 x s) ∧ (∀ x, rnT σ (.tp x) = .tp x) ∧ (∀ x L, rnT σ (.tq x L) = .tq x L) ∧ (∀ x i j u v, rnT σ (.mx x i j u v) = .mx x i j (rn σ u) (rn σ v)) ∧ (∀ vs, rnT σ (.lv vs) = .lv (rns σ vs)) ∧ (∀ vs, rnT σ (.bx vs) = .bx (rns σ vs)) :=
 ⟨fun _ => rfl, fun _ => rfl, fun _ => rfl, fun _ => rfl, fun _ => rfl, fun _ _ => rfl, fun _ => rfl, fun _ _ => rfl, fun _ _ _ _ _ => rfl, fun _ => rfl, fun _ => rfl⟩
def mvTRun (P : Program) (ops : Array Oper) (n : Nat) (own : List Nat) : List Nat → St → (St → Prop) → Prop
 | [], st, K => K st
 | k :: ks, st, K => gRun (own.contains k) P ops n [pickO ops k] st (fun st' => mvTRun P ops n own ks st' K)
def MVT (P : Program) (ops : Array Oper) (n : Nat) (own : List Nat) (ks : List Nat) (K : St → Prop) : St → Prop := fun st => mvTRun P ops n own ks st K
section
variable {P : Program} {ops : Array Oper} {n : Nat} {own : List Nat} {st : St} {K : St → Prop} {cx : Cx} {Q : SQ} {cs : List Code}
theorem mvT_nil : mvTRun P ops n own [] st K = K st := rfl
theorem mvT_cons (k : Nat) (ks : List Nat) : mvTRun P ops n own (k :: ks) st K = gRun (own.contains k) P ops n [pickO ops k] st (MVT P ops n own ks K) := rfl
theorem MVT_ap (ks : List Nat) : MVT P ops n own ks K st = mvTRun P ops n own ks st K := rfl
attribute [go_sem] mvT_nil mvT_cons MVT_ap rnLs rnL rn rns sw SlotsLe sortH insH rnHs rnH rnT_e frzH frzT_e frzW frzV frzA frzAs
end
end Go.Aw
namespace Go.Aw
end Go.Aw
namespace Go.Aw
open Go.RowKit
section
variable {P : Program} {cx : Cx} {n : Nat} {H : List (Nat × Tree)} {w : World} {ι : Nat → Value} {F : Nat → List Nat}
end
end Go.Aw
namespace Go.Aw
open Go.RowKit
section
variable {P : Program} {cx : Cx} {n : Nat} {H : List (Nat × Tree)} {w : World} {ι : Nat → Value} {F : Nat → List Nat}
theorem owns_as (ho : Owns cx H w ι F) (a : Nat) {t t' : Tree} (hf : find H a = some t) (hl : ∀ p, livePath (some t) p = true → livePath (some t') p = true) (ht : ∀ m : Mem, m.w = w → treeRep m (F a) t' (ι a)) :
  ∃ ι' F', Owns cx (putT H a t') w ι' F' ∧ ∀ av x, rep (mem cx w H ι F) av x → rep (mem cx w (putT H a t') ι' F') av x := by
 have hid : a ∈ Aw.ids H := List.mem_map.2 ⟨_, find_mem hf, rfl⟩
 have key := ho.put (w' := w) [] a t' (ι a) (F a) (qOf [] []) ho.keep (Nat.le_refl _) (fun _ _ _ => rfl) (foot_part ho hf)
  (fun x hx => ⟨(ho.mine x (mem_foot.2 ⟨_, find_mem hf, hx⟩)).1, .inl ⟨a, .inl rfl, hid, hx⟩⟩) (fun r hr => by simp at hr)
  (fun p _ hl' => by
   rw [hf] at hl'
   exact ⟨hl p hl', rfl, fun u hu => hu⟩)
  (fun _ => ht _ rfl)
 rw [rmT_no, killH_no] at key
 exact ⟨_, _, key.1, fun av x h => by have := key.2 av x h; rwa [killA_no] at this⟩
theorem ghost_as (a : Nat) {t t' : Tree} {s : List (Nat × AV)} (hf : find H a = some t) (hl : ∀ p, livePath (some t) p = true → livePath (some t') p = true) (ht : ∀ (m m' : Mem) (fp : List Nat) (v : Value), m'.w = m.w → treeRep m fp t v → treeRep m' fp t' v) :
  Ghost cx n ⟨s, H⟩ ⟨s, putT H a t'⟩ := by
 intro tmps w ⟨hsz, ι, F, ho, hr⟩
 obtain ⟨ι', F', o1, o2⟩ := owns_as ho a hf hl (fun m hm => ht (mem cx w H ι F) m _ _ hm (ho.trees _ (find_mem hf)))
 exact ⟨hsz, ι', F', o1, fun k => o2 _ _ (hr k)⟩
theorem live_q {xss yss : List (List Int)} {L L' : List (Nat × Value)} (p : List Nat) (h : livePath (some (.tq xss L)) p = true) : livePath (some (.tq yss L')) p = true := by
 match p, h with
 | [], _ => rfl
 | [_], _ => rfl
 | _ :: _ :: _, h => simp [livePath] at h
theorem ghost_t2q (a : Nat) {xss : List (List Int)} {s : List (Nat × AV)} (hf : find H a = some (.t2 xss)) : Ghost cx n ⟨s, H⟩ ⟨s, putT H a (.tq xss [])⟩ :=
 ghost_as a hf (fun p h => by
  match p, h with
  | [], _ => rfl
  | [_], _ => rfl
  | _ :: _ :: _, h => simp [livePath] at h) (fun m m' fp v hm h => by
  simp only [treeRep] at h ⊢
  rw [hm]
  exact ⟨h, fun p hp => by simp at hp⟩)
theorem ghost_unpin (a : Nat) {xss : List (List Int)} {p : Nat × Value} {L : List (Nat × Value)} {s : List (Nat × AV)} (hf : find H a = some (.tq xss (p :: L))) : Ghost cx n ⟨s, H⟩ ⟨s, putT H a (.tq xss L)⟩ :=
 ghost_as a hf live_q (fun m m' fp v hm h => by
  simp only [treeRep] at h ⊢
  rw [hm]
  exact ⟨h.1, fun q hq => h.2 q (List.mem_cons_of_mem _ hq)⟩)
theorem get_cons (s : List (Nat × AV)) (k : Nat) (v : AV) (j : Nat) : slotGet ((k, v) :: s) j = if k = j then v else slotGet s j := rfl
theorem ghost_vr (a k r : Nat) {x : Value} {xss : List (List Int)} {L : List (Nat × Value)} {s : List (Nat × AV)} (hf : find H a = some (.tq xss L)) (hx : (r, x) ∈ L) (hk : slotGet s k = .val x) :
  Ghost cx n ⟨s, H⟩ ⟨(k, .ref a [r]) :: s, H⟩ := by
 intro tmps w ⟨hsz, ι, F, ho, hr⟩
 refine ⟨hsz, ι, F, ho, fun j => ?_⟩
 show rep _ (slotGet ((k, .ref a [r]) :: s) j) _
 rw [get_cons]
 by_cases e : k = j
 ·subst e
  rw [if_pos rfl]
  have h := hr k
  have e2 : (⟨s, H⟩ : St).get k = .val x := hk
  rw [e2] at h
  simp only [rep] at h
  have ht := ho.trees _ (find_mem hf)
  simp only [treeRep, mem] at ht
  simp only [rep, mem]
  exact ⟨by rw [hf]; rfl, by rw [h]; exact ht.2 _ hx⟩
 ·rw [if_neg e]; exact hr j
theorem ghost_rv (a k r : Nat) {x : Value} {xss : List (List Int)} {L : List (Nat × Value)} {s : List (Nat × AV)} (hf : find H a = some (.tq xss L)) (hx : (r, x) ∈ L) (hk : slotGet s k = .ref a [r]) :
  Ghost cx n ⟨s, H⟩ ⟨(k, .val x) :: s, H⟩ := by
 intro tmps w ⟨hsz, ι, F, ho, hr⟩
 refine ⟨hsz, ι, F, ho, fun j => ?_⟩
 show rep _ (slotGet ((k, .val x) :: s) j) _
 rw [get_cons]
 by_cases e : k = j
 ·subst e
  rw [if_pos rfl]
  have h := hr k
  have e2 : (⟨s, H⟩ : St).get k = .ref a [r] := hk
  rw [e2] at h
  simp only [rep, mem] at h
  have ht := ho.trees _ (find_mem hf)
  simp only [treeRep, mem] at ht
  simp only [rep]
  have h2 := ht.2 _ hx
  have h3 := h.2
  rw [h2] at h3
  exact (Option.some.inj h3).symm
 ·rw [if_neg e]; exact hr j
theorem ats_pin {Q : SQ} {cs : List Code} {c : Code} (a k r : Nat) {xss : List (List Int)} {L : List (Nat × Value)} {s : List (Nat × AV)} (hf : find H a = some (.tq xss L)) (hk : slotGet s k = .ref a [r])
  (h : ∀ x, ATs P cx n (c :: cs) Q ⟨(k, .val x) :: s, putT H a (.tq xss ((r, x) :: L))⟩) : ATs P cx n (c :: cs) Q ⟨s, H⟩ := by
 intro tmps w hs
 obtain ⟨hsz, ι, F, ho, hr⟩ := hs
 have hk' := hr k
 have e2 : (⟨s, H⟩ : St).get k = .ref a [r] := hk
 rw [e2] at hk'
 simp only [rep, mem] at hk'
 have ht := ho.trees _ (find_mem hf)
 simp only [treeRep, mem] at ht
 obtain ⟨ι', F', o1, o2⟩ := owns_as ho a (t' := .tq xss ((r, tmps.getD k undef) :: L)) hf live_q (fun m hm => by
  simp only [treeRep]
  rw [hm]
  refine ⟨ht.1, fun p hp => ?_⟩
  rcases List.mem_cons.1 hp with rfl | hp
  ·exact hk'.2
  ·exact ht.2 p hp)
 refine h (tmps.getD k undef) tmps w ⟨hsz, ι', F', o1, fun j => ?_⟩
 show rep _ (slotGet ((k, .val (tmps.getD k undef)) :: s) j) _
 rw [get_cons]
 by_cases e : k = j
 ·subst e
  rw [if_pos rfl]
  simp only [rep]
 ·rw [if_neg e]; exact o2 _ _ (hr j)
end
end Go.Aw
