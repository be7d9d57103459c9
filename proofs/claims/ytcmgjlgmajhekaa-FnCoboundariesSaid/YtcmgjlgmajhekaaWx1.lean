import Derived.Test.YtcmgjlgmajhekaaTy
import Derived.Test.YtcmgjlgmajhekaaLib3
import Derived.Test.YtcmgjlgmajhekaaPl1
set_option linter.unusedSimpArgs false
set_option linter.unusedVariables false
namespace Go.Proofs.Ytcmgjlgmajhekaa
open Go Go.Aw
theorem mixed : Try.prog.follows .mixedOrders = true := by kernel_rfl
end Go.Proofs.Ytcmgjlgmajhekaa
namespace Go.Proofs.Ytcmgjlgmajhekaa
open Go Go.Aw Go.Pl
end Go.Proofs.Ytcmgjlgmajhekaa
namespace Go.Proofs.Ytcmgjlgmajhekaa
open Go Go.Aw Go.Pl
end Go.Proofs.Ytcmgjlgmajhekaa
namespace Go.Proofs.Ytcmgjlgmajhekaa
open Go Go.Aw Go.Pl
end Go.Proofs.Ytcmgjlgmajhekaa
namespace Go.Proofs.Ytcmgjlgmajhekaa
open Go Go.Aw Go.Pl
end Go.Proofs.Ytcmgjlgmajhekaa
namespace Go.Proofs.Ytcmgjlgmajhekaa
open Go Go.Aw Go.Pl
theorem own_nil {w : World} {fp : List Nat} {v : Value} (h : ownR w fp .nil v) : ownR w fp (.l1 []) v := by
 simp only [ownR] at h ⊢
 exact ⟨.inl ⟨h.2, rfl, h.1⟩, by simp⟩
theorem rep_nil {m : Mem} {v : Value} (h : rep m .nil v) : rep m (.l1 []) v := by
 simp only [rep] at h ⊢
 exact ⟨.inl ⟨⟨none, h⟩, rfl⟩, by simp⟩
end Go.Proofs.Ytcmgjlgmajhekaa
