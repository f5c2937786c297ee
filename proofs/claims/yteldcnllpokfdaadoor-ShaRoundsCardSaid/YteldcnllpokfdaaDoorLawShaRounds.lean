/- ShaRounds: whatever state and block, the program's round and the reference's give the same state; the condition is the card's own: the two listed tables are tied to the program's text. -/
import Derived.Test.YteldcnllpokfdaaDoorLaid
import Derived.Test.YteldcnllpokfdaaDoorRounds
import Derived.Carry
import Derived.Test.YteldcnllpokfdaaDoorTie
import Derived.Test.YteldcnllpokfdaaDoorCards
import Derived.SevenTiedAt
namespace Go.Proofs.YteldcnllpokfdaaDoor.shaRounds
open Go.ChangeShapes Go.WideShapes Go.ChangeAt Go.RowKit
open Go.ChangeMaps (open_string shut_string)
set_option linter.unusedVariables false
set_option maxRecDepth 100000 in
theorem lifted (os : Os) (started : os.Started) (H : Type) (enc : TypeId × Value → H) :
    ReturnsInHanded {} Tryd.checked os 6 .any (fun w args => (Rows.shaRoundsSpec.pre enc Tryd.prog Tryd.f6 [] false w args ∧ laidMetH Tryd.prog Sha.laid2 w) ∧ sizedMet enc Tryd.prog Tryd.f6 (OpenSpec.ofChange Rows.shaRoundsSpec) false w args)
      (Rows.shaRoundsSpec.post enc Tryd.prog Tryd.f6 false true false false) := by
  refine returnsInHanded_of_change_and (C := Tryd.checked) (X := fun w _ => laidMetH Tryd.prog Sha.laid2 w) (fun _ _ _ hh h => h.of_heap hh) Sha.own started (by kernel_rfl) Tryd.func6
    (ChangeSpec.witness_shaped (enc := enc) (C := Tryd.checked) (os := os) (X := fun w _ => laidMetH Tryd.prog Sha.laid2 w) false (World.doorLaid Tryd.prog 400 os) #[.agg (Sha.row (List.replicate 8 0)), .agg (Sha.bytes (List.replicate 64 0))] 8 rfl (World.shaped_of_RefB (by kernel_rfl) (by kernel_rfl)) (by kernel_rfl) (by kernel_rfl) (by kernel_rfl) (Sha.door_met2 os _)) ?_
  intro W base args ds gs before hval0 hW _ hsz0 hL _
  have hval : ∀ (j : Nat) t v, Tryd.f6.params[j]? = some t → args[j]? = some v → Value.okWide Tryd.prog W .any base t v := hval0
  have hW' := hW
  obtain ⟨p, q, hA0, hV, rfl, hfz, hnd⟩ := hW
  have hA : DataW.TrodAll enc Tryd.prog W 0 (fun _ => true) true Tryd.f6.params.toList args.toList ds p := hA0
  rw [Tryd.params6] at hA hval
  obtain ⟨v0, v1, d0, d1, p0, p1, rfl, rfl, rfl, h0, h1⟩ := trodAll_two hA
  obtain ⟨rfl, rfl⟩ := trodVars_none hV
  clear hA0 hval0
  simp only [List.append_nil] at hW'
  have hlt0 : ∀ x ∈ p0, x.block < W.heap.size := fun x hx => hW'.lt x (by simp [hx])
  have hlt1 : ∀ x ∈ p1, x.block < W.heap.size := fun x hx => hW'.lt x (by simp [hx])
  obtain ⟨zs, hzl, rfl, _⟩ := Sha.open_arr Tryd.underlying29 Tryd.underlying28 Sha.c28 Sha.c29 (hval 0 29 v0 rfl rfl) h0
  obtain ⟨bs, hbl, rfl, _⟩ := Sha.open_arr Tryd.underlying30 Tryd.underlying5 Sha.c5 Sha.c30 (hval 1 30 v1 rfl rfl) h1
  refine (Sha.rounds_any zs bs W hzl hbl (Sha.keys_of2 hL).1 (Sha.keys_of2 hL).2).mono fun e W' ⟨he, bel⟩ => ?_
  subst he
  exact ⟨_, rfl, [d0, d1], [], _, [], p0 ++ p1, [], by simpa using hW', trodAll_mk1 (shut_bool Tryd.underlying4 _), trodAll_mk2 (Below.trod Sha.laidOut (by kernel_rfl) (of_decide_eq_true (by kernel_rfl)) h0 bel hlt0) (Below.trod Sha.laidOut (by kernel_rfl) (of_decide_eq_true (by kernel_rfl)) h1 bel hlt1), rfl, bel.frame _, fun h => by cases h⟩
theorem over : Rows.shaRoundsRow.holds Tryd.pinned (OpenSpec.ofChange Rows.shaRoundsSpec) :=
  OpenClaim.holds_of_wide 6 Tryd.f6 rfl rfl rfl rfl rfl rfl rfl ⟨rfl, rfl, rfl, rfl, rfl⟩ rfl rfl rfl rfl rfl (by kernel_rfl) Tryd.func6 (by kernel_rfl)
    (of_decide_eq_true (by kernel_rfl)) (by unfold Func.isWrapper; first | (rw [if_pos (by decide +kernel)]; kernel_rfl) | (rw [if_neg (by decide +kernel)]; exact ⟨rfl, rfl⟩))
    (fun os started H enc _ => lifted os started H enc)
theorem card : Rows.ShaRoundsCardSaid :=
  Claim7.holds_tied_plain_at .later [] [.data, .data] true (true, "c1a1c13433a46fbbddf1a5de7e97490dc733502104a488d0b90299ecb7525f3a") false
    over (fun _ h => by cases h) (by kernel_rfl) (fun _ h => by cases h) shaRounds_row_tie rfl ⟨rfl, rfl⟩ (by kernel_rfl) rfl
    (fun f fn hf hfn => by
      obtain rfl : f = 6 := Option.some.inj ((show Tryd.prog.funcNamed "sordine/sordinelaw2.ShaRounds" = some 6 by kernel_rfl).symm.trans hf) |>.symm
      obtain rfl : fn = Tryd.f6 := (Option.some.inj (Tryd.func6.symm.trans hfn)).symm
      exact ⟨by kernel_rfl, fun j t ht => by
        rw [Tryd.params6] at ht
        have h3 : t = 29 ∨ t = 30 := by
          rcases j with _ | _ | j
          · exact .inl (by simpa using ht.symm)
          · exact .inr (by simpa using ht.symm)
          · simp at ht
        rcases h3 with rfl | rfl
        · exact (show Tryd.prog.wantsStandIn 29 = false by kernel_rfl)
        · exact (show Tryd.prog.wantsStandIn 30 = false by kernel_rfl)⟩)
    (by kernel_rfl)
#print axioms card
end Go.Proofs.YteldcnllpokfdaaDoor.shaRounds
namespace Go.Proofs.YteldcnllpokfdaaDoor
/-- The card, under a short name, for the claim. -/
theorem shaRounds_card : Rows.ShaRoundsCardSaid := shaRounds.card
end Go.Proofs.YteldcnllpokfdaaDoor
