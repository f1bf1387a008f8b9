/- BidiShows, the plain law. -/
import Derived.Test.YtdpifkhkemeclaaGreatGl
namespace Go.Proofs.YtdpifkhkemeclaaGreat.Pure
open Go.RowKit Go.Proofs.YtdpifkhkemeclaaGreat.PZ Go.Proofs.YtdpifkhkemeclaaGreatW.PrintWords
theorem BidiShows : parquetrylaw16_BidiShows.Pure := by
  intro c l _ _
  refine Ev.rounds ?_
  obtain ⟨x, hx, hX⟩ := shown_ev c l
  obtain ⟨y, hy, hY⟩ := shown_ev c 1
  unfold parquetrylaw16_BidiShows.f
  simp only [hx, hy, Option.bind_some]
  refine Ev.bind hX ?_
  refine Ev.congr (fun k => if_pos rfl) (Ev.bind hY ?_)
  refine Ev.congr (fun k => if_pos rfl) (Ev.bind (Ev.of parquetrylaw16_awake.mono parquetrylaw16_awake.run) (Ev.now _))
end Go.Proofs.YtdpifkhkemeclaaGreat.Pure
