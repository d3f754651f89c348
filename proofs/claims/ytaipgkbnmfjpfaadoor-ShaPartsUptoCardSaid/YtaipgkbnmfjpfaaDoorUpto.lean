/- The second form's bulk: a slice's bulk is no less than its length. -/
import Derived.Test.YtaipgkbnmfjpfaaDoorRows
namespace Go.Proofs.YtaipgkbnmfjpfaaDoor
theorem uptoBulk_pos {H : Type} (d : DataW H) : 1 ≤ Rows.uptoBulk d := by
  cases d with
  | lit l => cases l <;> simp [Rows.uptoBulk]
  | _ => simp [Rows.uptoBulk]
theorem uptoAll_ge {H : Type} : ∀ l : List (DataW H), l.length ≤ Rows.uptoBulkAll l
  | [] => Nat.zero_le _
  | d :: r => by
    have h1 := uptoBulk_pos d
    have h2 := uptoAll_ge r
    simp only [Rows.uptoBulkAll, List.length_cons]
    omega
theorem uptoSlice_le {H : Type} (elems rest : List (DataW H)) : elems.length ≤ Rows.uptoBulk (.slice elems rest) := by
  have := uptoAll_ge elems
  simp only [Rows.uptoBulk]
  omega
end Go.Proofs.YtaipgkbnmfjpfaaDoor
