import Derived.Test.YtcmgjlgmajhekaaJz1
import Derived.Test.YtcmgjlgmajhekaaDz2
import Derived.Test.YtcmgjlgmajhekaaLib7
set_option linter.unusedSimpArgs false
set_option linter.unusedVariables false
namespace Go.Proofs.Ytcmgjlgmajhekaa
open Go Go.Aw Go.Pl
def PmB (n : Nat) (o : List Int) : Prop := o.length = n ∧ ∀ x ∈ o, 0 ≤ x ∧ x < n
theorem PmB.q {n : Nat} {o : List Int} (h : PmB n o) {i : Nat} (hi : i < n) : 0 ≤ o.getD i 0 ∧ o.getD i 0 < n := by
 have hl : i < o.length := by rw [h.1]; exact hi
 exact h.2 _ (by rw [List.getD_eq_getElem?_getD, List.getElem?_eq_getElem hl]; exact List.getElem_mem hl)
end Go.Proofs.Ytcmgjlgmajhekaa
namespace Go.Proofs.Ytcmgjlgmajhekaa
open Go Go.Aw Go.Pl
end Go.Proofs.Ytcmgjlgmajhekaa
namespace Go.Proofs.Ytcmgjlgmajhekaa
open Go Go.Aw Go.Pl
def srcB (s : Src) : Tree := .bx [.lv (bsV s.code), .int s.pos, .ik .u64 s.h]
theorem killT_srcB {q : Nat → List Nat → Bool} {s : Src} : killT q (srcB s) = srcB s := by
 unfold srcB
 simp [killT, killAs, killA, killAs_bsV]
theorem rnT_srcB {f : Nat → Nat} {s : Src} : rnT f (srcB s) = srcB s := by
 unfold srcB
 simp [rnT, rns, rn, rns_bsV]
theorem frzT_srcB {H : List (Nat × Tree)} {R : List Nat} {s : Src} : frzT H R (srcB s) = srcB s := by
 unfold srcB
 simp [frzT, frzW, frzV, killA, killAs_bsV]
attribute [go_sem] killT_srcB rnT_srcB frzT_srcB
attribute [simp] killT_srcB rnT_srcB
theorem fcall_src {P : Program} {H : List (Nat × Tree)} {f : FuncId} {args : List AV} {s s' : Src} {r : AV} {K : AV → List Nat → List Nat → List (Nat × Tree) → Prop} (h : OwnCall P f args [(0, srcB s)] [(0, srcB s')] r [0]) (hm : find H 0 = some (srcB s)) (ha : killAs (outQ [(0, srcB s)]) args = args)
  (k : K r [] [0] ((0, srcB s') :: killH (qOf [] [0]) (rmT [0] H))) : FCall P H f args K :=
 fcall_box h (by simp [Aw.ids]) (fun p hp => by simp only [List.mem_singleton] at hp; subst hp; exact hm) (fun p hp => by simp only [List.mem_singleton] at hp; subst hp; exact killT_srcB) ha (by simp [Aw.ids]) k
theorem next_ok (s : Src) (hs : s.Ok) (n : Int) (hn : n ≤ 1099511627776) : OwnCall Try.prog 26 [.bptr 0 0, .int n] [(0, srcB s)] [(0, srcB (nx s n).2)] (.int (nx s n).1) [0] := l01Next_ok s hs n hn
theorem from_ok (c : List Int) (hl : c.length ≤ 1048576) (hb : ∀ i, i < c.length → 0 ≤ c.getD i 0 ∧ c.getD i 0 ≤ 255) : OwnCall Try.prog 21 [.lv (bsV c)] [] [(0, srcB (frS c))] (.bptr 0 0) [] := l01From_ok c hl hb
theorem pick2_ok (s : Src) (hs : s.Ok) (xs : List Int) (h1 : 1 ≤ xs.length) (h2 : xs.length ≤ 1048576) : OwnCall Try.prog 23 [.bptr 0 0, .ref 2 []]
  [(0, srcB s), (2, .t1 xs)] [(0, srcB (nx s xs.length).2), (2, .t1 xs)] (.int (xs.getD (nx s xs.length).1.toNat 0)) [0, 2] := by
 have hN := next_ok s hs xs.length (by omega)
 have hb := nx_bd s (n := xs.length) (by omega)
 obtain ⟨r, er⟩ : ∃ r, nx s xs.length = r := ⟨_, rfl⟩
 rw [er] at hN hb ⊢
 refine OwnCall.intro (n := 12) (rs := [.tmp 4]) 2 [0, 1] (X := [0, 2]) Try.call23 Try.func23 rfl rfl rfl (by simp only [List.length_cons, List.length_nil]; omega) (by simp [Aw.ids, rootsA, rootsAs, argSlots, slotGet]) (fun cx hcx => AT.weakG (ats_of ?_)); simp only [argSlots, Nat.zero_add, Nat.reduceAdd]
 refine gBN ?_
 refine gCN fun K hK => ?_
 (repeat refine aI (hb := ?_))
 refine fcall_bx (hN) (k := ?_); simp only [Aw.ids, go_sem, seval]
 (repeat refine aI (hb := ?_))
 refine hK _ ?_; clear hK K
 refine ats_ret ⟨⟨[(0, .bptr 0 0), (1, .ref 2 []), (4, .int (xs.getD r.1.toNat 0))], [(0, srcB r.2), (2, .t1 xs)]⟩, ghost_to [] [], .inr rfl, (by first | rfl | exact ⟨trivial, rfl⟩ | (simp only [resL, resA, go_sem, seval]; done)), (by simp [St.get, slotGet, argSlots]), rfl⟩
theorem pick9_ok (s : Src) (hs : s.Ok) (xs : List Int) (h1 : 1 ≤ xs.length) (h2 : xs.length ≤ 1048576) : OwnCall Try.prog 23 [.bptr 0 0, .ref 9 []]
  [(0, srcB s), (9, .t1 xs)] [(0, srcB (nx s xs.length).2), (9, .t1 xs)] (.int (xs.getD (nx s xs.length).1.toNat 0)) [0, 9] := by
 have hN := next_ok s hs xs.length (by omega)
 have hb := nx_bd s (n := xs.length) (by omega)
 obtain ⟨r, er⟩ : ∃ r, nx s xs.length = r := ⟨_, rfl⟩
 rw [er] at hN hb ⊢
 refine OwnCall.intro (n := 12) (rs := [.tmp 4]) 2 [0, 1] (X := [0, 9]) Try.call23 Try.func23 rfl rfl rfl (by simp only [List.length_cons, List.length_nil]; omega) (by simp [Aw.ids, rootsA, rootsAs, argSlots, slotGet]) (fun cx hcx => AT.weakG (ats_of ?_)); simp only [argSlots, Nat.zero_add, Nat.reduceAdd]
 refine gBN ?_
 refine gCN fun K hK => ?_
 (repeat refine aI (hb := ?_))
 refine fcall_bx (hN) (k := ?_); simp only [Aw.ids, go_sem, seval]
 (repeat refine aI (hb := ?_))
 refine hK _ ?_; clear hK K
 refine ats_ret ⟨⟨[(0, .bptr 0 0), (1, .ref 9 []), (4, .int (xs.getD r.1.toNat 0))], [(0, srcB r.2), (9, .t1 xs)]⟩, ghost_to [] [], .inr rfl, (by first | rfl | exact ⟨trivial, rfl⟩ | (simp only [resL, resA, go_sem, seval]; done)), (by simp [St.get, slotGet, argSlots]), rfl⟩
end Go.Proofs.Ytcmgjlgmajhekaa
