/-
  The reference's texts: decimals, a ring's text.
-/
import Derived.Test.YtgaclhdmhipagaaDoorLib7
import Derived.Test.YtgaclhdmhipagaaDoorTy
import Derived.Test.YtgaclhdmhipagaaDoorWx3
import Derived.Test.YtgaclhdmhipagaaDoorPlHa
set_option linter.unusedSimpArgs false
set_option linter.unusedVariables false
namespace Go.Proofs.YtgaclhdmhipagaaDoor
open Go Go.Aw Go.Pl Go.RowKit
attribute [local go_sem] pickO List.getElem?_toArray List.getElem?_cons_zero List.getElem?_cons_succ Option.getD_some and_true true_and and_self
theorem size0 : (#[] : Array UInt8).size = 0 := rfl
theorem size1 (a : UInt8) : (#[a] : Array UInt8).size = 1 := rfl
theorem str0 : AV.str ⟨#[]⟩ = AV.str (bs []) := rfl
theorem str1 (a : UInt8) : AV.str ⟨#[a]⟩ = AV.str (bs [a]) := rfl
attribute [go_sem] size0 size1 str0 str1 bs_app bs_size
theorem wrap_dig (n : Nat) : IntKind.wrap .u8 ((48 + n % 10 : Nat) : Int) = ((48 + n % 10 : Nat) : Int) := by
  simp only [IntKind.wrap_u8]
  omega
theorem str_dig (n : Nat) : strOfNums [((48 + n % 10 : Nat) : Int)] = bs [UInt8.ofNat (48 + n % 10)] := by
  simp only [strOfNums, bs, List.map_cons, List.map_nil, Int.toNat_natCast]
theorem l01Dec_ok : ∀ (f n : Nat), n < 10 ^ (f + 1) → n ≤ 1000 → PureCall Tryd.prog 19 [.int (n : Int)] (.str (bs (dec n)))
  | f, n, hn, hb => by
    by_cases hs : n < 10
    · have hd : dec n = [UInt8.ofNat (48 + n % 10)] := by rw [dec_small hs]; congr 3; omega
      rw [hd]
      have e1 : (48 : Int) + n = ((48 + n % 10 : Nat) : Int) := by omega
      refine PureCall.intro (n := 20) (rs := [.tmp 2]) Tryd.call19 Tryd.func19 rfl rfl rfl (by simp only [List.length_cons, List.length_nil]; omega) (fun cx hcx => ats_of ?_); simp only [argSlots, Nat.zero_add, Nat.reduceAdd]
      (repeat refine ats_seq ?_); refine ats_go (fix0 hcx) fun K hK => ?_; simp only [go_sem, seval]; (repeat refine aI (hb := ?_)); refine hK _ ?_; clear hK K
      (repeat refine ats_seq ?_); refine ats_go (fix0 hcx) fun K hK => ?_; simp only [go_sem, seval]; (repeat refine aI (hb := ?_)); refine hK _ ?_; clear hK K
      (repeat refine ats_seq ?_); first | refine ats_ifn (p := _) rfl trivial (fun hc1 => ?_) (fun hc1 => ?_) | refine ats_ifp (p := _) rfl trivial (fun hc1 => ?_) (fun hc1 => ?_) | refine ats_cond rfl trivial (fun hc1 => ?_) (fun hc1 => ?_)
      · (repeat refine ats_seq ?_); refine ats_go (fix0 hcx) fun K hK => ?_; simp only [go_sem, seval, e1, bytesOf, byteOf, wrap_dig, str_dig, List.length_cons, List.length_nil]
        (repeat refine aI (hb := ?_))
        refine hK _ ?_; clear hK K
        exact ats_ret (finV rfl ⟨rfl, trivial⟩ rfl)
      · omega
    · cases f with
      | zero => exact absurd hn (by simpa using hs)
      | succ f =>
        have ih := l01Dec_ok f (n / 10) (Nat.div_lt_of_lt_mul (by rw [Nat.pow_succ, Nat.mul_comm] at hn; exact hn)) (by omega)
        have e2 : (48 : Int) + ((n % 10 : Nat) : Int) = ((48 + n % 10 : Nat) : Int) := by omega
        have e3 : (n : Int).tdiv 10 = ((n / 10 : Nat) : Int) := rfl
        have e4 : (n : Int).tmod 10 = ((n % 10 : Nat) : Int) := rfl
        have hdl : (dec ((n / 10 : Nat) : Int)).length ≤ 4 := dec_len 3 (n / 10) (Nat.lt_of_le_of_lt (show n / 10 ≤ 1000 by omega) (by decide))
        rw [dec_big hs]
        refine PureCall.introR (n := 20) (rs := [.tmp 2]) Tryd.call19 Tryd.func19 rfl rfl rfl (by simp only [List.length_cons, List.length_nil]; omega) (fun cx hcx hrd => ats_of ?_); simp only [argSlots, Nat.zero_add, Nat.reduceAdd]
        (repeat refine ats_seq ?_); refine ats_go (fix0 hcx) fun K hK => ?_; simp only [go_sem, seval]; (repeat refine aI (hb := ?_)); refine hK _ ?_; clear hK K
        (repeat refine ats_seq ?_); refine ats_go (fix0 hcx) fun K hK => ?_; simp only [go_sem, seval]; (repeat refine aI (hb := ?_)); refine hK _ ?_; clear hK K
        (repeat refine ats_seq ?_); first | refine ats_ifn (p := _) rfl trivial (fun hc1 => ?_) (fun hc1 => ?_) | refine ats_ifp (p := _) rfl trivial (fun hc1 => ?_) (fun hc1 => ?_) | refine ats_cond rfl trivial (fun hc1 => ?_) (fun hc1 => ?_)
        · omega
        · refine ats_skip ?_
          (repeat refine ats_seq ?_)
          obtain ⟨z0, ez0⟩ : ∃ z : St, z = ⟨[(10, .int n), (13, .int n)], []⟩ := ⟨_, rfl⟩
          obtain ⟨z1, ez1⟩ : ∃ z : St, z = ⟨[(11, .int ((n / 10 : Nat) : Int)), (13, .int n)], []⟩ := ⟨_, rfl⟩
          obtain ⟨z2, ez2⟩ : ∃ z : St, z = ⟨[(10, .int n), (14, .int ((n % 10 : Nat) : Int))], []⟩ := ⟨_, rfl⟩
          obtain ⟨z3, ez3⟩ : ∃ z : St, z = ⟨[(12, .str (bs (dec (n / 10 : Nat)))), (13, .int n)], []⟩ := ⟨_, rfl⟩
          obtain ⟨z4, ez4⟩ : ∃ z : St, z = ⟨[(11, .int ((n / 10 : Nat) : Int)), (14, .int ((n % 10 : Nat) : Int))], []⟩ := ⟨_, rfl⟩
          obtain ⟨z5, ez5⟩ : ∃ z : St, z = ⟨[(10, .int n), (15, .int ((48 + n % 10 : Nat) : Int))], []⟩ := ⟨_, rfl⟩
          obtain ⟨z6, ez6⟩ : ∃ z : St, z = ⟨[(12, .str (bs (dec (n / 10 : Nat)))), (14, .int ((n % 10 : Nat) : Int))], []⟩ := ⟨_, rfl⟩
          obtain ⟨z7, ez7⟩ : ∃ z : St, z = ⟨[(11, .int ((n / 10 : Nat) : Int)), (15, .int ((48 + n % 10 : Nat) : Int))], []⟩ := ⟨_, rfl⟩
          obtain ⟨z8, ez8⟩ : ∃ z : St, z = ⟨[(10, .int n), (16, .ik .u8 ((48 + n % 10 : Nat) : Int))], []⟩ := ⟨_, rfl⟩
          obtain ⟨z9, ez9⟩ : ∃ z : St, z = ⟨[(12, .str (bs (dec (n / 10 : Nat)))), (15, .int ((48 + n % 10 : Nat) : Int))], []⟩ := ⟨_, rfl⟩
          obtain ⟨z10, ez10⟩ : ∃ z : St, z = ⟨[(11, .int ((n / 10 : Nat) : Int)), (16, .ik .u8 ((48 + n % 10 : Nat) : Int))], []⟩ := ⟨_, rfl⟩
          obtain ⟨z11, ez11⟩ : ∃ z : St, z = ⟨[(10, .int n), (17, .ref 0 [])], [(0, .lv [.ik .u8 ((48 + n % 10 : Nat) : Int)])]⟩ := ⟨_, rfl⟩
          obtain ⟨z12, ez12⟩ : ∃ z : St, z = ⟨[(12, .str (bs (dec (n / 10 : Nat)))), (16, .ik .u8 ((48 + n % 10 : Nat) : Int))], []⟩ := ⟨_, rfl⟩
          obtain ⟨z13, ez13⟩ : ∃ z : St, z = ⟨[(11, .int ((n / 10 : Nat) : Int)), (17, .ref 0 [])], [(0, .lv [.ik .u8 ((48 + n % 10 : Nat) : Int)])]⟩ := ⟨_, rfl⟩
          obtain ⟨z14, ez14⟩ : ∃ z : St, z = ⟨[(10, .int n), (18, .str (bs [UInt8.ofNat (48 + n % 10)]))], [(0, .lv [.ik .u8 ((48 + n % 10 : Nat) : Int)])]⟩ := ⟨_, rfl⟩
          obtain ⟨z15, ez15⟩ : ∃ z : St, z = ⟨[(12, .str (bs (dec (n / 10 : Nat)))), (17, .ref 0 [])], [(0, .lv [.ik .u8 ((48 + n % 10 : Nat) : Int)])]⟩ := ⟨_, rfl⟩
          obtain ⟨z16, ez16⟩ : ∃ z : St, z = ⟨[(11, .int ((n / 10 : Nat) : Int)), (18, .str (bs [UInt8.ofNat (48 + n % 10)]))], [(0, .lv [.ik .u8 ((48 + n % 10 : Nat) : Int)])]⟩ := ⟨_, rfl⟩
          obtain ⟨z17, ez17⟩ : ∃ z : St, z = ⟨[(12, .str (bs (dec (n / 10 : Nat)))), (18, .str (bs [UInt8.ofNat (48 + n % 10)]))], [(0, .lv [.ik .u8 ((48 + n % 10 : Nat) : Int)])]⟩ := ⟨_, rfl⟩
          obtain ⟨z18, ez18⟩ : ∃ z : St, z = ⟨[(19, .str (bs (dec (n / 10 : Nat) ++ [UInt8.ofNat (48 + n % 10)])))], [(0, .lv [.ik .u8 ((48 + n % 10 : Nat) : Int)])]⟩ := ⟨_, rfl⟩
          obtain ⟨z19, ez19⟩ : ∃ z : St, z = ⟨[(2, .str (bs (dec (n / 10 : Nat) ++ [UInt8.ofNat (48 + n % 10)])))], [(0, .lv [.ik .u8 ((48 + n % 10 : Nat) : Int)])]⟩ := ⟨_, rfl⟩
          refine ats_table [] [0, 3] [[0, 3], [0, 1, 3], [0, 3, 4], [0, 1, 2, 3], [0, 1, 3, 4], [0, 3, 4, 5], [0, 1, 2, 3, 4], [0, 1, 3, 4, 5], [0, 3, 4, 5, 6], [0, 1, 2, 3, 4, 5], [0, 1, 3, 4, 5, 6], [0, 3, 4, 5, 6, 7], [0, 1, 2, 3, 4, 5, 6], [0, 1, 3, 4, 5, 6, 7], [0, 3, 4, 5, 6, 7, 8], [0, 1, 2, 3, 4, 5, 6, 7], [0, 1, 3, 4, 5, 6, 7, 8], [0, 1, 2, 3, 4, 5, 6, 7, 8], [0, 1, 2, 3, 4, 5, 6, 7, 8, 9], [0, 1, 2, 3, 4, 5, 6, 7, 8, 9, 10]] [(0, 1, 1), (0, 4, 2), (1, 2, 3), (1, 4, 4), (2, 1, 4), (2, 5, 5), (3, 4, 6), (4, 2, 6), (4, 5, 7), (5, 1, 7), (5, 6, 8), (6, 5, 9), (7, 2, 9), (7, 6, 10), (8, 1, 10), (8, 7, 11), (9, 6, 12), (10, 2, 12), (10, 7, 13), (11, 1, 13), (11, 8, 14), (12, 7, 15), (13, 2, 15), (13, 8, 16), (14, 1, 16), (15, 8, 17), (16, 2, 17), (17, 9, 18), (18, 10, 19)] [z0, z1, z2, z3, z4, z5, z6, z7, z8, z9, z10, z11, z12, z13, z14, z15, z16, z17, z18, z19] hrd (by first | exact fix0 hcx | exact fix1 hcx rfl | exact fixN hcx rfl) mixed (by kernel_rfl) ?_ ?_ ?_
          · show mvTRun _ _ _ _ _ _ (fun s => Ghost _ _ s z0)
            rw [ez0]; simp only [go_sem, seval]; repeat' (first | exact dt_can ⟨rfl, rfl, trivial⟩ rfl | with_reducible refine And.intro ?_ ?_ | omega)
          · refine ⟨?_, ?_, ?_, ?_, ?_, ?_, ?_, ?_, ?_, ?_, ?_, ?_, ?_, ?_, ?_, ?_, ?_, ?_, ?_, ?_, ?_, ?_, ?_, ?_, ?_, ?_, ?_, ?_, ?_, trivial⟩
            · show gRun _ _ _ _ _ z0 (fun st' => Ghost _ _ st' z1)
              rw [ez0, ez1]; simp only [go_sem, seval]; (try simp only [e3]); repeat' (first | exact dt_can ⟨rfl, rfl, trivial⟩ rfl | with_reducible refine And.intro ?_ ?_ | omega)
            · show gRun _ _ _ _ _ z0 (fun st' => Ghost _ _ st' z2)
              rw [ez0, ez2]; simp only [go_sem, seval]; (try simp only [e4]); repeat' (first | exact dt_can ⟨rfl, rfl, trivial⟩ rfl | with_reducible refine And.intro ?_ ?_ | omega)
            · show gRun _ _ _ _ _ z1 (fun st' => Ghost _ _ st' z3)
              rw [ez1, ez3]; simp only [go_sem, seval]; repeat' (first | exact dt_can ⟨rfl, rfl, trivial⟩ rfl | with_reducible refine And.intro ?_ ?_ | omega | ((first | refine fcall_data (ih) rfl ?_ | refine YR_intro (acall_data (ih) rfl) ?_); simp only [go_sem, seval]))
            · show gRun _ _ _ _ _ z1 (fun st' => Ghost _ _ st' z4)
              rw [ez1, ez4]; simp only [go_sem, seval]; (try simp only [e4]); repeat' (first | exact dt_can ⟨rfl, rfl, trivial⟩ rfl | with_reducible refine And.intro ?_ ?_ | omega)
            · show gRun _ _ _ _ _ z2 (fun st' => Ghost _ _ st' z4)
              rw [ez2, ez4]; simp only [go_sem, seval]; (try simp only [e3]); repeat' (first | exact dt_can ⟨rfl, rfl, trivial⟩ rfl | with_reducible refine And.intro ?_ ?_ | omega)
            · show gRun _ _ _ _ _ z2 (fun st' => Ghost _ _ st' z5)
              rw [ez2, ez5]; simp only [go_sem, seval]; (try simp only [e2]); repeat' (first | exact dt_can ⟨rfl, rfl, trivial⟩ rfl | with_reducible refine And.intro ?_ ?_ | omega)
            · show gRun _ _ _ _ _ z3 (fun st' => Ghost _ _ st' z6)
              rw [ez3, ez6]; simp only [go_sem, seval]; (try simp only [e4]); repeat' (first | exact dt_can ⟨rfl, rfl, trivial⟩ rfl | with_reducible refine And.intro ?_ ?_ | omega)
            · show gRun _ _ _ _ _ z4 (fun st' => Ghost _ _ st' z6)
              rw [ez4, ez6]; simp only [go_sem, seval]; repeat' (first | exact dt_can ⟨rfl, rfl, trivial⟩ rfl | with_reducible refine And.intro ?_ ?_ | omega | ((first | refine fcall_data (ih) rfl ?_ | refine YR_intro (acall_data (ih) rfl) ?_); simp only [go_sem, seval]))
            · show gRun _ _ _ _ _ z4 (fun st' => Ghost _ _ st' z7)
              rw [ez4, ez7]; simp only [go_sem, seval]; (try simp only [e2]); repeat' (first | exact dt_can ⟨rfl, rfl, trivial⟩ rfl | with_reducible refine And.intro ?_ ?_ | omega)
            · show gRun _ _ _ _ _ z5 (fun st' => Ghost _ _ st' z7)
              rw [ez5, ez7]; simp only [go_sem, seval]; (try simp only [e3]); repeat' (first | exact dt_can ⟨rfl, rfl, trivial⟩ rfl | with_reducible refine And.intro ?_ ?_ | omega)
            · show gRun _ _ _ _ _ z5 (fun st' => Ghost _ _ st' z8)
              rw [ez5, ez8]; simp only [go_sem, seval]; (try simp only [wrap_dig]); repeat' (first | exact dt_can ⟨rfl, rfl, trivial⟩ rfl | with_reducible refine And.intro ?_ ?_ | omega)
            · show gRun _ _ _ _ _ z6 (fun st' => Ghost _ _ st' z9)
              rw [ez6, ez9]; simp only [go_sem, seval]; (try simp only [e2]); repeat' (first | exact dt_can ⟨rfl, rfl, trivial⟩ rfl | with_reducible refine And.intro ?_ ?_ | omega)
            · show gRun _ _ _ _ _ z7 (fun st' => Ghost _ _ st' z9)
              rw [ez7, ez9]; simp only [go_sem, seval]; repeat' (first | exact dt_can ⟨rfl, rfl, trivial⟩ rfl | with_reducible refine And.intro ?_ ?_ | omega | ((first | refine fcall_data (ih) rfl ?_ | refine YR_intro (acall_data (ih) rfl) ?_); simp only [go_sem, seval]))
            · show gRun _ _ _ _ _ z7 (fun st' => Ghost _ _ st' z10)
              rw [ez7, ez10]; simp only [go_sem, seval]; (try simp only [wrap_dig]); repeat' (first | exact dt_can ⟨rfl, rfl, trivial⟩ rfl | with_reducible refine And.intro ?_ ?_ | omega)
            · show gRun _ _ _ _ _ z8 (fun st' => Ghost _ _ st' z10)
              rw [ez8, ez10]; simp only [go_sem, seval]; (try simp only [e3]); repeat' (first | exact dt_can ⟨rfl, rfl, trivial⟩ rfl | with_reducible refine And.intro ?_ ?_ | omega)
            · show gRun _ _ _ _ _ z8 (fun st' => Ghost _ _ st' z11)
              rw [ez8, ez11]; simp only [go_sem, seval]; repeat' (first | exact dt_can ⟨rfl, rfl, trivial⟩ rfl | with_reducible refine And.intro ?_ ?_ | omega)
            · show gRun _ _ _ _ _ z9 (fun st' => Ghost _ _ st' z12)
              rw [ez9, ez12]; simp only [go_sem, seval]; (try simp only [wrap_dig]); repeat' (first | exact dt_can ⟨rfl, rfl, trivial⟩ rfl | with_reducible refine And.intro ?_ ?_ | omega)
            · show gRun _ _ _ _ _ z10 (fun st' => Ghost _ _ st' z12)
              rw [ez10, ez12]; simp only [go_sem, seval]; repeat' (first | exact dt_can ⟨rfl, rfl, trivial⟩ rfl | with_reducible refine And.intro ?_ ?_ | omega | ((first | refine fcall_data (ih) rfl ?_ | refine YR_intro (acall_data (ih) rfl) ?_); simp only [go_sem, seval]))
            · show gRun _ _ _ _ _ z10 (fun st' => Ghost _ _ st' z13)
              rw [ez10, ez13]; simp only [go_sem, seval]; repeat' (first | exact dt_can ⟨rfl, rfl, trivial⟩ rfl | with_reducible refine And.intro ?_ ?_ | omega)
            · show gRun _ _ _ _ _ z11 (fun st' => Ghost _ _ st' z13)
              rw [ez11, ez13]; simp only [go_sem, seval]; (try simp only [e3]); repeat' (first | exact dt_can ⟨rfl, rfl, trivial⟩ rfl | with_reducible refine And.intro ?_ ?_ | omega)
            · show gRun _ _ _ _ _ z11 (fun st' => Ghost _ _ st' z14)
              rw [ez11, ez14]; simp only [go_sem, seval]; (try simp only [bytesOf, byteOf, str_dig, List.length_cons, List.length_nil]); repeat' (first | exact dt_can ⟨rfl, rfl, trivial⟩ rfl | with_reducible refine And.intro ?_ ?_ | omega)
            · show gRun _ _ _ _ _ z12 (fun st' => Ghost _ _ st' z15)
              rw [ez12, ez15]; simp only [go_sem, seval]; repeat' (first | exact dt_can ⟨rfl, rfl, trivial⟩ rfl | with_reducible refine And.intro ?_ ?_ | omega)
            · show gRun _ _ _ _ _ z13 (fun st' => Ghost _ _ st' z15)
              rw [ez13, ez15]; simp only [go_sem, seval]; repeat' (first | exact dt_can ⟨rfl, rfl, trivial⟩ rfl | with_reducible refine And.intro ?_ ?_ | omega | ((first | refine fcall_data (ih) rfl ?_ | refine YR_intro (acall_data (ih) rfl) ?_); simp only [go_sem, seval]))
            · show gRun _ _ _ _ _ z13 (fun st' => Ghost _ _ st' z16)
              rw [ez13, ez16]; simp only [go_sem, seval]; (try simp only [bytesOf, byteOf, str_dig, List.length_cons, List.length_nil]); repeat' (first | exact dt_can ⟨rfl, rfl, trivial⟩ rfl | with_reducible refine And.intro ?_ ?_ | omega)
            · show gRun _ _ _ _ _ z14 (fun st' => Ghost _ _ st' z16)
              rw [ez14, ez16]; simp only [go_sem, seval]; (try simp only [e3]); repeat' (first | exact dt_can ⟨rfl, rfl, trivial⟩ rfl | with_reducible refine And.intro ?_ ?_ | omega)
            · show gRun _ _ _ _ _ z15 (fun st' => Ghost _ _ st' z17)
              rw [ez15, ez17]; simp only [go_sem, seval]; (try simp only [bytesOf, byteOf, str_dig, List.length_cons, List.length_nil]); repeat' (first | exact dt_can ⟨rfl, rfl, trivial⟩ rfl | with_reducible refine And.intro ?_ ?_ | omega)
            · show gRun _ _ _ _ _ z16 (fun st' => Ghost _ _ st' z17)
              rw [ez16, ez17]; simp only [go_sem, seval]; repeat' (first | exact dt_can ⟨rfl, rfl, trivial⟩ rfl | with_reducible refine And.intro ?_ ?_ | omega | ((first | refine fcall_data (ih) rfl ?_ | refine YR_intro (acall_data (ih) rfl) ?_); simp only [go_sem, seval]))
            · show gRun _ _ _ _ _ z17 (fun st' => Ghost _ _ st' z18)
              rw [ez17, ez18]; simp only [go_sem, seval]; repeat' (first | exact dt_can ⟨rfl, trivial⟩ rfl | with_reducible refine And.intro ?_ ?_ | omega)
            · show gRun _ _ _ _ _ z18 (fun st' => Ghost _ _ st' z19)
              rw [ez18, ez19]; simp only [go_sem, seval]; exact dt_can ⟨rfl, trivial⟩ rfl
          show ATs _ _ _ _ _ z19
          rw [ez19]
          clear ez0 ez1 ez2 ez3 ez4 ez5 ez6 ez7 ez8 ez9 ez10 ez11 ez12 ez13 ez14 ez15 ez16 ez17 ez18 ez19 z0 z1 z2 z3 z4 z5 z6 z7 z8 z9 z10 z11 z12 z13 z14 z15 z16 z17 z18 z19
          exact ats_ret (finV rfl ⟨rfl, trivial⟩ rfl)
theorem l01Dec_at {t : List (List (List Int))} (hc : Cube t) {i j k : Nat} (hi : i < t.length) (hj : j < t.length) (hk : k < t.length) :
    PureCall Tryd.prog 19 [.int (((t.getD i []).getD j []).getD k 0)] (.str (bs (dec (((t.getD i []).getD j []).getD k 0)))) ∧ (dec (((t.getD i []).getD j []).getD k 0)).length ≤ 4 := by
  have hb := hc.inM hi hj hk
  unfold InM e3 at hb
  generalize ((t.getD i []).getD j []).getD k 0 = x at hb ⊢
  obtain ⟨n, rfl⟩ : ∃ n : Nat, x = n := ⟨x.toNat, by omega⟩
  have h3 : n < 10 ^ (3 + 1) := Nat.lt_of_le_of_lt (show n ≤ 1000 by omega) (by decide)
  exact ⟨l01Dec_ok 3 n h3 (by omega), dec_len 3 n h3⟩
theorem l03Text_ok (t : List (List (List Int))) (hc : Cube t) : PureCall Tryd.prog 11 [.agg [.l3 t]] (.str (bs (cubT t))) := by
  have h16 := hc.2.1
  have hm := fun i hi => hc.mat (i := i) hi
  have hrow := fun i j hi hj => hc.row (i := i) (j := j) hi hj
  refine PureCall.intro (n := 55) (rs := [.tmp 2]) Tryd.call11 Tryd.func11 rfl rfl rfl (by simp only [List.length_cons, List.length_nil]; omega) (fun cx hcx => ats_of ?_); simp only [argSlots, Nat.zero_add, Nat.reduceAdd]
  (repeat refine ats_seq ?_); refine ats_go (fix0 hcx) fun K hK => ?_; simp only [go_sem, seval]; (repeat refine aI (hb := ?_)); refine hK _ ?_; clear hK K
  (repeat refine ats_seq ?_); refine ats_go (fix0 hcx) fun K hK => ?_; simp only [go_sem, seval]; (repeat refine aI (hb := ?_)); refine hK _ ?_; clear hK K
  (repeat refine ats_seq ?_); refine ats_go (fix0 hcx) fun K hK => ?_; simp only [go_sem, seval]; (repeat refine aI (hb := ?_)); refine hK _ ?_; clear hK K
  (repeat refine ats_seq ?_); refine ats_loop (fun i : Nat => ⟨[(1, .bptr 0 0), (3, .str (bs (cubA t i))), (4, .int i)], [(0, .bx [.l3 t])]⟩) (fun i => i ≤ t.length) (fun i => t.length - i) 0 (Nat.zero_le _) (by refine And.intro ?_ rfl; simp only [leS, Nat.reduceEqDiff, ↓reduceIte, true_and, and_true]; repeat' (first | rfl | with_reducible refine And.intro ?_ ?_ | omega)) (fun i hi => ?_)
  (repeat refine ats_seq ?_); refine ats_go (fix0 hcx) fun K hK => ?_; simp only [go_sem, seval]; (repeat refine aI (hb := ?_)); refine hK _ ?_; clear hK K
  (repeat refine ats_seq ?_); first | refine ats_ifn (p := _) rfl trivial (fun hc2 => ?_) (fun hc2 => ?_) | refine ats_ifp (p := _) rfl trivial (fun hc2 => ?_) (fun hc2 => ?_) | refine ats_cond rfl trivial (fun hc2 => ?_) (fun hc2 => ?_)
  · refine ats_skip ?_
    (repeat refine ats_seq ?_); refine ats_block ?_
    have hi' : i < t.length := by omega
    have hl1 := cubA_len hc i
    (repeat refine ats_seq ?_); refine ats_go (fix0 hcx) fun K hK => ?_; simp only [go_sem, seval]; (repeat refine aI (hb := ?_)); refine hK _ ?_; clear hK K
    refine ats_upto ⟨[(1, .bptr 0 0), (3, .str (bs (preT t i))), (4, .int i)], [(0, .bx [.l3 t])]⟩ ?_ ?_
    · (repeat refine ats_seq ?_); first | refine ats_ifn (p := _) rfl trivial (fun hc3 => ?_) (fun hc3 => ?_) | refine ats_ifp (p := _) rfl trivial (fun hc3 => ?_) (fun hc3 => ?_) | refine ats_cond rfl trivial (fun hc3 => ?_) (fun hc3 => ?_)
      · have e47 := preT_pos (t := t) (i := i) (by omega)
        (repeat refine ats_seq ?_); refine ats_go (fix0 hcx) fun K hK => ?_; simp only [go_sem, seval, e47, List.length_cons, List.length_nil]
        (repeat refine aI (hb := ?_))
        refine hK _ ?_; clear hK K
        refine ats_nil ?_; refine Or.inl ⟨rfl, ghost_trans (ghost_drop []) (ghost_can [] (by simp only [killL, killA, killAs, qOf, rmT, killH, killT, List.filter_cons, List.filter_nil, List.contains_cons, List.contains_nil, Bool.or_false, Bool.or_true, Bool.false_and, Bool.not_true, Bool.not_false, Bool.false_eq_true, if_true, if_false, rnLs, rnL, rn, rns, sw, SlotsLe, St.get, slotGet, List.map_cons, List.map_nil, seval, AV.int.injEq, AV.bool.injEq, AV.l1.injEq, AV.l2.injEq, AV.l3.injEq, true_and, and_true]) (by simp only [killL, killA, killAs, qOf, rmT, killH, killT, List.filter_cons, List.filter_nil, List.contains_cons, List.contains_nil, Bool.or_false, Bool.or_true, Bool.false_and, Bool.not_true, Bool.not_false, Bool.false_eq_true, if_true, if_false, sortH, insH, rnHs, rnH, rnT, rn, rns, sw, List.map_cons, List.map_nil, seval]))⟩
      · rw [preT_zero (t := t) (i := i) (by omega)]
        refine ats_skip ?_
        refine ats_nil ?_; refine Or.inl ⟨rfl, ghost_trans (ghost_drop []) (ghost_can [] (by simp only [killL, killA, killAs, qOf, rmT, killH, killT, List.filter_cons, List.filter_nil, List.contains_cons, List.contains_nil, Bool.or_false, Bool.or_true, Bool.false_and, Bool.not_true, Bool.not_false, Bool.false_eq_true, if_true, if_false, rnLs, rnL, rn, rns, sw, SlotsLe, St.get, slotGet, List.map_cons, List.map_nil, seval, AV.int.injEq, AV.bool.injEq, AV.l1.injEq, AV.l2.injEq, AV.l3.injEq, true_and, and_true]) (by simp only [killL, killA, killAs, qOf, rmT, killH, killT, List.filter_cons, List.filter_nil, List.contains_cons, List.contains_nil, Bool.or_false, Bool.or_true, Bool.false_and, Bool.not_true, Bool.not_false, Bool.false_eq_true, if_true, if_false, sortH, insH, rnHs, rnH, rnT, rn, rns, sw, List.map_cons, List.map_nil, seval]))⟩
    (repeat refine ats_seq ?_); refine ats_go (fix0 hcx) fun K hK => ?_; simp only [go_sem, seval]; (repeat refine aI (hb := ?_)); refine hK _ ?_; clear hK K
    rw [← atT_start (t := t) (i := i)]
    (repeat refine ats_seq ?_); refine ats_loop (fun j : Nat => ⟨[(1, .bptr 0 0), (3, .str (bs (atT t i j 0))), (4, .int i), (5, .int j)], [(0, .bx [.l3 t])]⟩) (fun j => j ≤ t.length) (fun j => t.length - j) 0 (Nat.zero_le _) (by refine And.intro ?_ rfl; simp only [leS, Nat.reduceEqDiff, ↓reduceIte, true_and, and_true]; repeat' (first | rfl | with_reducible refine And.intro ?_ ?_ | omega)) (fun j hj => ?_)
    (repeat refine ats_seq ?_); refine ats_go (fix0 hcx) fun K hK => ?_; simp only [go_sem, seval]; (repeat refine aI (hb := ?_)); refine hK _ ?_; clear hK K
    (repeat refine ats_seq ?_); first | refine ats_ifn (p := _) rfl trivial (fun hc5 => ?_) (fun hc5 => ?_) | refine ats_ifp (p := _) rfl trivial (fun hc5 => ?_) (fun hc5 => ?_) | refine ats_cond rfl trivial (fun hc5 => ?_) (fun hc5 => ?_)
    · refine ats_skip ?_
      (repeat refine ats_seq ?_); refine ats_block ?_
      have hj' : j < t.length := by omega
      (repeat refine ats_seq ?_); refine ats_go (fix0 hcx) fun K hK => ?_; simp only [go_sem, seval]; (repeat refine aI (hb := ?_)); refine hK _ ?_; clear hK K
      (repeat refine ats_seq ?_); refine ats_loop (fun k : Nat => ⟨[(1, .bptr 0 0), (3, .str (bs (atT t i j k))), (4, .int i), (5, .int j), (6, .int k)], [(0, .bx [.l3 t])]⟩) (fun k => k ≤ t.length) (fun k => t.length - k) 0 (Nat.zero_le _) (by refine And.intro ?_ rfl; simp only [leS, Nat.reduceEqDiff, ↓reduceIte, true_and, and_true]; repeat' (first | rfl | with_reducible refine And.intro ?_ ?_ | omega)) (fun k hk => ?_)
      (repeat refine ats_seq ?_); refine ats_go (fix0 hcx) fun K hK => ?_; simp only [go_sem, seval]; (repeat refine aI (hb := ?_)); refine hK _ ?_; clear hK K
      (repeat refine ats_seq ?_); first | refine ats_ifn (p := _) rfl trivial (fun hc7 => ?_) (fun hc7 => ?_) | refine ats_ifp (p := _) rfl trivial (fun hc7 => ?_) (fun hc7 => ?_) | refine ats_cond rfl trivial (fun hc7 => ?_) (fun hc7 => ?_)
      · refine ats_skip ?_
        (repeat refine ats_seq ?_); refine ats_block ?_
        have hk' : k < t.length := by omega
        have hl2 := atT_len hc hi' (Nat.le_of_lt hj') (Nat.le_of_lt hk')
        have hl3 := atS_len hc hi' (Nat.le_of_lt hj') (Nat.le_of_lt hk')
        obtain ⟨hd, hdl⟩ := l01Dec_at hc hi' hj' hk'
        have en := atT_next hc hi' hj' hk'
        have g1 := hm i hi'
        have g2 := hrow i j hi' hj'
        (repeat refine ats_seq ?_); refine ats_go (fix0 hcx) fun K hK => ?_; simp only [go_sem, seval]; (repeat refine aI (hb := ?_)); refine hK _ ?_; clear hK K
        refine ats_upto ⟨[(1, .bptr 0 0), (3, .str (bs (atS t i j k))), (4, .int i), (5, .int j), (6, .int k)], [(0, .bx [.l3 t])]⟩ ?_ ?_
        · (repeat refine ats_seq ?_); first | refine ats_ifn (p := _) rfl trivial (fun hc8 => ?_) (fun hc8 => ?_) | refine ats_ifp (p := _) rfl trivial (fun hc8 => ?_) (fun hc8 => ?_) | refine ats_cond rfl trivial (fun hc8 => ?_) (fun hc8 => ?_)
          · have e32 := atS_pos (t := t) (i := i) (j := j) (k := k) (by simp at hc8; omega)
            (repeat refine ats_seq ?_); refine ats_go (fix0 hcx) fun K hK => ?_; simp only [go_sem, seval, e32, List.length_cons, List.length_nil]
            (repeat refine aI (hb := ?_))
            refine hK _ ?_; clear hK K
            refine ats_nil ?_; refine Or.inl ⟨rfl, ghost_trans (ghost_drop []) (ghost_can [] (by simp only [killL, killA, killAs, qOf, rmT, killH, killT, List.filter_cons, List.filter_nil, List.contains_cons, List.contains_nil, Bool.or_false, Bool.or_true, Bool.false_and, Bool.not_true, Bool.not_false, Bool.false_eq_true, if_true, if_false, rnLs, rnL, rn, rns, sw, SlotsLe, St.get, slotGet, List.map_cons, List.map_nil, seval, AV.int.injEq, AV.bool.injEq, AV.l1.injEq, AV.l2.injEq, AV.l3.injEq, true_and, and_true]) (by simp only [killL, killA, killAs, qOf, rmT, killH, killT, List.filter_cons, List.filter_nil, List.contains_cons, List.contains_nil, Bool.or_false, Bool.or_true, Bool.false_and, Bool.not_true, Bool.not_false, Bool.false_eq_true, if_true, if_false, sortH, insH, rnHs, rnH, rnT, rn, rns, sw, List.map_cons, List.map_nil, seval]))⟩
          · rw [atS_zero (t := t) (i := i) (j := j) (k := k) (by simp at hc8; omega)]
            refine ats_skip ?_
            refine ats_nil ?_; refine Or.inl ⟨rfl, ghost_trans (ghost_drop []) (ghost_can [] (by simp only [killL, killA, killAs, qOf, rmT, killH, killT, List.filter_cons, List.filter_nil, List.contains_cons, List.contains_nil, Bool.or_false, Bool.or_true, Bool.false_and, Bool.not_true, Bool.not_false, Bool.false_eq_true, if_true, if_false, rnLs, rnL, rn, rns, sw, SlotsLe, St.get, slotGet, List.map_cons, List.map_nil, seval, AV.int.injEq, AV.bool.injEq, AV.l1.injEq, AV.l2.injEq, AV.l3.injEq, true_and, and_true]) (by simp only [killL, killA, killAs, qOf, rmT, killH, killT, List.filter_cons, List.filter_nil, List.contains_cons, List.contains_nil, Bool.or_false, Bool.or_true, Bool.false_and, Bool.not_true, Bool.not_false, Bool.false_eq_true, if_true, if_false, sortH, insH, rnHs, rnH, rnT, rn, rns, sw, List.map_cons, List.map_nil, seval]))⟩
        (repeat refine ats_seq ?_); refine ats_go (fix0 hcx) fun K hK => ?_; simp only [go_sem, seval]
        (repeat refine aI (hb := ?_))
        first | refine fcall_data (hd) rfl ?_ | refine YR_intro (acall_data (hd) rfl) ?_
        simp only [go_sem, seval]
        (repeat refine aI (hb := ?_))
        simp only [← en]
        refine hK _ ?_; clear hK K
        (repeat refine ats_seq ?_); refine ats_go (fix0 hcx) fun K hK => ?_; simp only [go_sem, seval]; (repeat refine aI (hb := ?_)); refine hK _ ?_; clear hK K
        refine ⟨k + 1,  by omega, by omega, .inl ⟨by simp only [leS, Nat.reduceEqDiff, ↓reduceIte, true_and, and_true]; omega,  rfl⟩⟩
      · refine ats_exit (lq_x ?_)
        obtain rfl : k = t.length := by omega
        rw [atT_row hc hi' hj']
        (repeat refine ats_seq ?_); refine ats_go (fix0 hcx) fun K hK => ?_; simp only [go_sem, seval]; (repeat refine aI (hb := ?_)); refine hK _ ?_; clear hK K
        refine ⟨j + 1,  by omega, by omega, .inl ⟨by simp only [leS, Nat.reduceEqDiff, ↓reduceIte, true_and, and_true]; omega,  rfl⟩⟩
    · refine ats_exit (lq_x ?_)
      obtain rfl : j = t.length := by omega
      rw [atT_end hc hi']
      (repeat refine ats_seq ?_); refine ats_go (fix0 hcx) fun K hK => ?_; simp only [go_sem, seval]; (repeat refine aI (hb := ?_)); refine hK _ ?_; clear hK K
      refine ⟨i + 1,  by omega, by omega, .inl ⟨by simp only [leS, Nat.reduceEqDiff, ↓reduceIte, true_and, and_true]; omega,  rfl⟩⟩
  · refine ats_exit (lq_x ?_)
    obtain rfl : i = t.length := by omega
    rw [cubA_end]
    (repeat refine ats_seq ?_); refine ats_go (fix0 hcx) fun K hK => ?_; simp only [go_sem, seval]; (repeat refine aI (hb := ?_)); refine hK _ ?_; clear hK K
    exact ats_ret (finV rfl ⟨rfl, trivial⟩ rfl)
theorem specRt0_ok (t : List (List (List Int))) : PureCall Tryd.prog 5 [.agg [.l3 t]] (if isRing t then .tup [.str (bs (cubT t)), .int 0] else .tup [.str (bs []), .int 1]) := by
  have hR := l03Is_ok t
  cases hr : isRing t with
  | false =>
    rw [hr] at hR
    simp only [Bool.false_eq_true, if_false]
    refine PureCall.intro (n := 9) (rs := [.tmp 2, .tmp 3]) Tryd.call5 Tryd.func5 rfl rfl rfl (by simp only [List.length_cons, List.length_nil]; omega) (fun cx hcx => ats_of ?_); simp only [argSlots, Nat.zero_add, Nat.reduceAdd]
    (repeat refine ats_seq ?_); refine ats_go (fix0 hcx) fun K hK => ?_; simp only [go_sem, seval]; (repeat refine aI (hb := ?_)); refine hK _ ?_; clear hK K
    (repeat refine ats_seq ?_); refine ats_go (fix0 hcx) fun K hK => ?_; simp only [go_sem, seval]
    first | refine fcall_data (hR) rfl ?_ | refine YR_intro (acall_data (hR) rfl) ?_
    simp only [go_sem, seval]
    refine hK _ ?_; clear hK K
    (repeat refine ats_seq ?_); refine ats_yes rfl trivial ?_
    (repeat refine ats_seq ?_); refine ats_go (fix0 hcx) fun K hK => ?_; simp only [go_sem, seval]; (repeat refine aI (hb := ?_)); refine hK _ ?_; clear hK K
    exact ats_ret (fin2 trivial trivial rfl)
  | true =>
    rw [hr] at hR
    have hx := l03Text_ok t (isRing_true hr).1
    simp only [if_true]
    refine PureCall.intro (n := 9) (rs := [.tmp 2, .tmp 3]) Tryd.call5 Tryd.func5 rfl rfl rfl (by simp only [List.length_cons, List.length_nil]; omega) (fun cx hcx => ats_of ?_); simp only [argSlots, Nat.zero_add, Nat.reduceAdd]
    (repeat refine ats_seq ?_); refine ats_go (fix0 hcx) fun K hK => ?_; simp only [go_sem, seval]; (repeat refine aI (hb := ?_)); refine hK _ ?_; clear hK K
    (repeat refine ats_seq ?_); refine ats_go (fix0 hcx) fun K hK => ?_; simp only [go_sem, seval]
    first | refine fcall_data (hR) rfl ?_ | refine YR_intro (acall_data (hR) rfl) ?_
    simp only [go_sem, seval]
    refine hK _ ?_; clear hK K
    (repeat refine ats_seq ?_); refine ats_no rfl trivial ?_
    refine ats_skip ?_
    (repeat refine ats_seq ?_); refine ats_go (fix0 hcx) fun K hK => ?_; simp only [go_sem, seval]
    first | refine fcall_data (hx) rfl ?_ | refine YR_intro (acall_data (hx) rfl) ?_
    simp only [go_sem, seval]
    refine hK _ ?_; clear hK K
    exact ats_ret (fin2 trivial trivial rfl)
end Go.Proofs.YtgaclhdmhipagaaDoor
