/-
  racewaylaw27.TicketPlaces answers true for every input: of any parts the URL and the ARN are the document's, and a queue's name may be, or may not, as it says. No condition.
-/
import Derived.Test.YtedfgkjimnjdpaaX3
import Derived.Test.YtedfgkjimnjdpaaExtPureWorks
namespace Go.Proofs.Ytedfgkjimnjdpaa.Pure
open Go.RowKit Go.Proofs.Ytedfgkjimnjdpaa.X Go.Proofs.YtedfgkjimnjdpaaW.PrintWords Go.Proofs.YtedfgkjimnjdpaaW.PrintLast Go.Proofs.YtedfgkjimnjdpaaW.PrintMore

theorem TicketPlaces : racewaylaw27_TicketPlaces.Pure := by
  intro a b c ha hb hc
  refine ⟨1000, ?_⟩
  unfold racewaylaw27_TicketPlaces.f
  have h1 := mn_cases (a.size : Int) 100
  have h2 := mn_cases (b.size : Int) 100
  have h3 := mn_cases (c.size : Int) 100
  have h4 := mn_le_left (a.size : Int) 100
  have h5 := mn_le_left (b.size : Int) 100
  have h6 := mn_le_left (c.size : Int) 100
  have za := cutB_size a 100
  have zb := cutB_size b 100
  have zc := cutB_size c 100
  unfold cutB at za zb zc
  rw [show ((100 : Nat) : Int) = 100 from rfl] at za zb zc
  rw [if_pos (by omega), if_pos h4, if_pos (by omega), if_pos h5, if_pos (by omega), if_pos h6]
  generalize a.extract 0 (mn (a.size : Int) 100).toNat = x at za ⊢
  generalize b.extract 0 (mn (b.size : Int) 100).toNat = y at zb ⊢
  generalize c.extract 0 (mn (c.size : Int) 100).toNat = z at zc ⊢
  rw [ticket_Url_eq x y z (by omega) (by omega) (by omega) 1000 (by omega), ticket_Arn_eq x y z (by omega) (by omega) (by omega) 1000 (by omega), ref_Put_eq _ _ x y z (by decide +kernel) (by decide +kernel) (by omega) (by omega) (by omega) 1000 (by omega), ref_Put_eq _ _ x y z (by decide +kernel) (by decide +kernel) (by omega) (by omega) (by omega) 1000 (by omega), ticket_Queue_eq z (by omega) 1000 (by omega), ref_Queue_eq z (by omega) 1000 (by omega), works_eq 1000 (by omega)]
  simp

end Go.Proofs.Ytedfgkjimnjdpaa.Pure
