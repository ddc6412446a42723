/- Structs of three lists (Market), more: a copy, a comparison, marks. -/
import Derived.Test.YtnhclpajfejnoaaMk
namespace Go.Proofs.Ytnhclpajfejnoaa
open Go.RowKit

theorem holed_alloc {lo hi : Nat} {w w' : World} (o : Obj) (h : Holed lo hi (w.alloc o) w') : Holed lo hi w w' :=
  ⟨h.os, h.tape, h.output, Nat.le_trans (by simp) h.size, fun k hk hx => (h.block k (by simp; omega) hx).trans (heap_alloc_old w o hk)⟩
end Go.Proofs.Ytnhclpajfejnoaa
