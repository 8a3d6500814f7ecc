/- Chapter 14: which guests are alike, as the program says; walked. -/
import Derived.Test.YtmhbpfclfffgkaaCfDa
import Derived.Test.YtmhbpfclfffgkaaCfDb
import Derived.Test.YtmhbpfclfffgkaaCfDc
namespace Go.Proofs.Ytmhbpfclfffgkaa
set_option linter.unusedVariables false
set_option linter.unusedSimpArgs false
open Go.RowKit Go.Sort

theorem sameGuest_any (a b : Gs × Gp) (w : World) (ha : GsR w w.heap.size a) (hb : GsR w w.heap.size b) :
    Calls Try.prog 39 #[.agg (gcells a).toArray, .agg (gcells b).toArray] w fun e w' => e = .returned (.bool (gEqB a.1 b.1)) ∧ Below w.heap.size w w' := by
  rcases h : (((((((a.1.nm.toList == b.1.nm.toList) && (a.1.mand == b.1.mand)) && (a.1.off == b.1.off)) && (a.1.len == b.1.len)) && (a.1.cpus == b.1.cpus)) && (a.1.entry == b.1.entry)) && (a.1.dtb == b.1.dtb)) with _ | _
  · exact sg_fields a b w ha hb h
  rcases h0 : (decide (a.1.key = b.1.key)) with _ | _
  · exact sg_K a b w ha hb (by simp only [h, Bool.and_self]) h0
  rcases h1 : (decide (a.1.ws = b.1.ws)) with _ | _
  · exact sg_W a b w ha hb (by simp only [h, h0, Bool.and_self]) h1
  rcases h2 : (decide (a.1.ds = b.1.ds)) with _ | _
  · exact sg_D a b w ha hb (by simp only [h, h0, h1, Bool.and_self]) h2
  rcases h3 : (decide (a.1.qs = b.1.qs)) with _ | _
  · exact sg_I a b w ha hb (by simp only [h, h0, h1, h2, Bool.and_self]) h3
  exact sg_S a b w ha hb (by simp only [h, h0, h1, h2, h3, Bool.and_self])
end Go.Proofs.Ytmhbpfclfffgkaa
