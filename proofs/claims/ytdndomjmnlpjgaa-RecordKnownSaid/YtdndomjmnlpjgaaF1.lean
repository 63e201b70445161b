/- Results of three cells; what holds behind the loop of record.Frames. -/
import Derived.Test.YtdndomjmnlpjgaaT26
import Derived.Test.YtdndomjmnlpjgaaF0
namespace Go.Proofs.Ytdndomjmnlpjgaa
open Go.RowKit Go.Shelf
theorem run_loadVar_one {P : Program} (w : World) (g : Nat) (t ty : TypeId) (v : Value) (d : TypeDesc) (hg : Blk w g t #[v])
    (hu : P.underlying ty = some d) (hd : (match d with | .struct _ | .array _ _ => true | _ => false) = false) :
    (loadVar ty ⟨g, 0, none⟩).run P w = .ok v w := by
  have hc : w.cell? ⟨g, 0, none⟩ = some v := hg.cell 0
  have hu' := hu
  unfold Program.underlying at hu'
  cases d <;> simp_all [loadVar, isAgg, underlying, Program.underlying, Sem.run_bind, Result.andThen]
theorem results_ccc {P : Program} {fn : Func} {p q r : Tmp} {tp tq tr : TypeId} (h : fn.results = #[.cell p tp, .cell q tq, .cell r tr]) (tmps : Array Value) (w : World) (g : Nat) (t : TypeId) (v : Value) (d : TypeDesc) (g2 : Nat) (t2 : TypeId) (v2 : Value) (d2 : TypeDesc) (g3 : Nat) (t3 : TypeId) (cs : Array Value) (d3 : TypeDesc)
    (hp : tmps.getD p undef = .pointer (some ⟨g, 0, none⟩)) (hg : Blk w g t #[v])
    (hu : P.underlying tp = some d) (hd : (match d with | .struct _ | .array _ _ => true | _ => false) = false)
    (hp2 : tmps.getD q undef = .pointer (some ⟨g2, 0, none⟩)) (hg2 : Blk w g2 t2 #[v2])
    (hu2 : P.underlying tq = some d2) (hd2 : (match d2 with | .struct _ | .array _ _ => true | _ => false) = false)
    (hp3 : tmps.getD r undef = .pointer (some ⟨g3, 0, none⟩)) (hg3 : Blk w g3 t3 cs)
    (hu3 : P.underlying tr = some d3) (hd3 : (match d3 with | .struct _ | .array _ _ => true | _ => false) = true) (hi3 : (P.info? tr).map (·.size) = some cs.size) :
    (results fn tmps).run P w = .ok (.tuple #[v, v2, .agg cs]) w := by
  have e1 := run_loadVar_one w g t tp v d hg hu hd
  have e2 := run_loadVar_one w g2 t2 tq v2 d2 hg2 hu2 hd2
  obtain ⟨fr3, hg3, _⟩ := hg3
  have e3 := run_loadVar_row w g3 t3 tr cs fr3 d3 hg3 hu3 hd3 hi3
  have hp' : tmps[p]?.getD undef = .pointer (some ⟨g, 0, none⟩) := by simpa using hp
  have hq' : tmps[q]?.getD undef = .pointer (some ⟨g2, 0, none⟩) := by simpa using hp2
  have hr' : tmps[r]?.getD undef = .pointer (some ⟨g3, 0, none⟩) := by simpa using hp3
  simp [results, h, hp', hq', hr', asAddr, e1, e2, e3]
end Go.Proofs.Ytdndomjmnlpjgaa
