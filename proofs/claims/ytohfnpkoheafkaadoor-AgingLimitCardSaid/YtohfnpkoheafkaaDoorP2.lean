/- The law AgingBucket of the printed functions. -/
import Derived.Test.YtohfnpkoheafkaaDoorPAgx4
import Derived.Test.YtohfnpkoheafkaaDoorP1
namespace Go.Proofs.YtohfnpkoheafkaaDoor.PAg
open Go.RowKit Go.Proofs.YtohfnpkoheafkaaDoorW.PrintWords Go.Proofs.YtohfnpkoheafkaaDoorW.PrintLast Go.Proofs.YtohfnpkoheafkaaDoorW.PrintMore

theorem ev_end : Ev (fun k => (accountinglaw27_lives.f k).bind fun t => some t) true := Ev.bind (G := fun _ t => some t) ev_lives (Ev.pure _)
theorem pure_AgingBucket (a : Int) (lims : List Int) (hl : lims.length ≤ 9223372036854775807) : ∃ k, accountinglaw27_AgingBucket.f k a lims = some true := by
  refine Ev.get ?_
  obtain ⟨b, hb, _⟩ := ev_light [] lims (Nat.zero_le _)
  unfold accountinglaw27_AgingBucket.f
  refine Ev.bind hb ?_
  cases b with
  | false => simpa using ev_end
  | true =>
    simp only [if_true]
    refine Ev.bind (ev_bucket a lims hl) (Ev.bind (ev_refBucket a lims hl) ?_)
    simp only [if_true]
    exact ev_end

end Go.Proofs.YtohfnpkoheafkaaDoor.PAg
