/-
  The examples of layer 31, reckoned out. No conditions stand ahead of what is proved.
-/
import Derived.Test.YtmkkijgnlohieaaO31
set_option maxRecDepth 100000
set_option linter.unusedSimpArgs false
set_option linter.unusedVariables false
namespace Go.Proofs.Ytmkkijgnlohieaa.O31x
open Go.Proofs.Ytmkkijgnlohieaa Go.Proofs.Ytmkkijgnlohieaa.Sy Go.Proofs.Ytmkkijgnlohieaa.L7 Go.Proofs.Ytmkkijgnlohieaa.Id Go.Proofs.Ytmkkijgnlohieaa.R26 Go.Proofs.Ytmkkijgnlohieaa.E30 Go.Proofs.Ytmkkijgnlohieaa.L7n Go.RowKit Go.WideShapes Go.ChangeShapes Go.ChangeAt
theorem hP : NoNum Try.prog := by unfold NoNum; kernel_rfl
def rdOf : List D → Option (List (Int × Int))
  | [] => some []
  | .rc [.int .i64 a, .int .i64 b] :: l => match rdOf l with | some m => some ((a, b) :: m) | none => none
  | _ :: _ => none
theorem rdOf_eq : ∀ {l : List D} {m : List (Int × Int)}, rdOf l = some m → l = m.map rD
  | [], m, h => by simp only [rdOf, Option.some.injEq] at h; subst h; rfl
  | d :: l, m, h => by
    unfold rdOf at h
    split at h
    · cases ‹_ :: _ = []›
    · rename_i a b l' e
      cases e
      split at h
      · rename_i m' hm
        cases h
        rw [rdOf_eq hm]
        rfl
      · cases h
    · cases h
def nCloneRd : NEnt := ⟨59, [tR], [tR], fun ds => match ds with
  | [.lst l] => (match rdOf l with | some m => (if Nat.ble m.length 4294967296 then some (.ok [rdD m]) else none) | none => none)
  | _ => none⟩
theorem nCloneRd_ok : NEntOK Try.prog [] nCloneRd := by
  intro ds r h
  simp only [nCloneRd] at h
  split at h
  · rename_i l
    split at h
    · rename_i m hm
      split at h
      · rename_i hl
        cases h
        have := rdOf_eq hm
        subst this
        exact clonerd_fn m (Nat.le_of_ble_eq_true hl)
      · cases h
    · cases h
  · cases h
def natX : List NEnt := nCloneRd :: nats
theorem natX_ok : ∀ e ∈ natX, NEntOK Try.prog [] e := by
  intro e he
  rcases List.mem_cons.1 he with rfl | he
  · exact nCloneRd_ok
  · exact nats_ok e he
def entX : List Ent := [⟨10, [], [(.c .bool)], O31.vcawake⟩,
  ⟨27, [(.c (.int .i64))], [(.g [.str, .str, (.int .i64), (.int .i64), (.int .i64), (.int .i64), .str, .bool, (.int .i64), (.lst [(.int .i64), (.int .i64)])])], O31.vcevent⟩,
  ⟨11, [(.c (.int .i64))], [(.g [(.int .i64), (.lst [.str, .str, (.int .i64), (.int .i64), (.int .i64), (.int .i64), .str, .bool, (.int .i64), (.lst [(.int .i64), (.int .i64)])]), (.int .i64)]), (.c (.int .i64))], O31.vcnew⟩,
  ⟨16, [(.g [(.int .i64), (.lst [.str, .str, (.int .i64), (.int .i64), (.int .i64), (.int .i64), .str, .bool, (.int .i64), (.lst [(.int .i64), (.int .i64)])]), (.int .i64)]), (.g [.str, .str, (.int .i64), (.int .i64), (.int .i64), (.int .i64), .str, .bool, (.int .i64), (.lst [(.int .i64), (.int .i64)])])], [(.g [(.int .i64), (.lst [.str, .str, (.int .i64), (.int .i64), (.int .i64), (.int .i64), .str, .bool, (.int .i64), (.lst [(.int .i64), (.int .i64)])]), (.int .i64)]), (.c (.int .i64))], O31.vcpush⟩,
  ⟨18, [(.g [(.int .i64), (.lst [.str, .str, (.int .i64), (.int .i64), (.int .i64), (.int .i64), .str, .bool, (.int .i64), (.lst [(.int .i64), (.int .i64)])]), (.int .i64)])], [(.g [.str, .str, (.int .i64), (.int .i64), (.int .i64), (.int .i64), .str, .bool, (.int .i64), (.lst [(.int .i64), (.int .i64)])]), (.c .bool)], O31.vchead⟩,
  ⟨20, [(.g [(.int .i64), (.lst [.str, .str, (.int .i64), (.int .i64), (.int .i64), (.int .i64), .str, .bool, (.int .i64), (.lst [(.int .i64), (.int .i64)])]), (.int .i64)]), (.c .str), (.c (.int .i64))], [(.g [(.int .i64), (.lst [.str, .str, (.int .i64), (.int .i64), (.int .i64), (.int .i64), .str, .bool, (.int .i64), (.lst [(.int .i64), (.int .i64)])]), (.int .i64)]), (.c (.int .i64))], O31.vcack⟩,
  ⟨23, [(.g [(.int .i64), (.lst [.str, .str, (.int .i64), (.int .i64), (.int .i64), (.int .i64), .str, .bool, (.int .i64), (.lst [(.int .i64), (.int .i64)])]), (.int .i64)])], [(.c (.lst [(.int .u8)])), (.c (.int .i64))], O31.vcsave⟩,
  ⟨25, [(.c (.lst [(.int .u8)]))], [(.g [(.int .i64), (.lst [.str, .str, (.int .i64), (.int .i64), (.int .i64), (.int .i64), .str, .bool, (.int .i64), (.lst [(.int .i64), (.int .i64)])]), (.int .i64)]), (.c (.int .i64))], O31.vcload⟩,
  ⟨15, [(.g [(.int .i64), (.lst [.str, .str, (.int .i64), (.int .i64), (.int .i64), (.int .i64), .str, .bool, (.int .i64), (.lst [(.int .i64), (.int .i64)])]), (.int .i64)]), (.g [(.int .i64), (.lst [.str, .str, (.int .i64), (.int .i64), (.int .i64), (.int .i64), .str, .bool, (.int .i64), (.lst [(.int .i64), (.int .i64)])]), (.int .i64)])], [(.c .bool)], O31.vcosame⟩,
  ⟨22, [(.c (.lst [.str, .str, (.int .i64), (.int .i64), (.int .i64), (.int .i64), .str, .bool, (.int .i64), (.lst [(.int .i64), (.int .i64)])])), (.c (.lst [.str, .str, (.int .i64), (.int .i64), (.int .i64), (.int .i64), .str, .bool, (.int .i64), (.lst [(.int .i64), (.int .i64)])]))], [(.c .bool)], O31.vcsameall⟩,
  ⟨31, [(.c (.lst [.str, .str, (.int .i64), (.int .i64), (.int .i64), (.int .i64), .str, .bool, (.int .i64), (.lst [(.int .i64), (.int .i64)])])), (.c (.lst [.str, .str, (.int .i64), (.int .i64), (.int .i64), (.int .i64), .str, .bool, (.int .i64), (.lst [(.int .i64), (.int .i64)])])), (.g [.str, .str, (.int .i64), (.int .i64), (.int .i64), (.int .i64), .str, .bool, (.int .i64), (.lst [(.int .i64), (.int .i64)])])], [(.c (.lst [.str, .str, (.int .i64), (.int .i64), (.int .i64), (.int .i64), .str, .bool, (.int .i64), (.lst [(.int .i64), (.int .i64)])]))], O31.vcjoin⟩,
  ⟨32, [(.c (.lst [.str, .str, (.int .i64), (.int .i64), (.int .i64), (.int .i64), .str, .bool, (.int .i64), (.lst [(.int .i64), (.int .i64)])]))], [(.c (.int .i64))], O31.vcdisc⟩,
  ⟨34, [(.g [.str, .str, (.int .i64), (.int .i64), (.int .i64), (.int .i64), .str, .bool, (.int .i64), (.lst [(.int .i64), (.int .i64)])])], [(.g [.str, .str, (.int .i64), (.int .i64), (.int .i64), (.int .i64), .str, .bool, (.int .i64), (.lst [(.int .i64), (.int .i64)])])], O31.vcclone⟩,
  ⟨13, [(.g [(.int .i64), (.lst [.str, .str, (.int .i64), (.int .i64), (.int .i64), (.int .i64), .str, .bool, (.int .i64), (.lst [(.int .i64), (.int .i64)])]), (.int .i64)])], [(.c (.int .i64))], O31.vcovalid⟩,
  ⟨47, [(.c (.lst [(.int .u8)]))], [(.g [.str, .str, (.int .i64), (.int .i64), (.int .i64), (.int .i64), .str, .bool, (.int .i64), (.lst [(.int .i64), (.int .i64)])]), (.c (.int .i64))], D30.vcdecode⟩,
  ⟨72, [(.p [(.s .str), (.s .str), (.s (.int .i64)), (.s (.int .i64)), (.s (.int .i64)), (.s (.int .i64)), (.s .str), (.s .bool), (.s (.int .i64)), (.s (.lst [(.int .i64), (.int .i64)]))]), (.g [(.int .i64), (.lst [(.int .u8)])])], [(.c .bool)], D30.vctakefield⟩,
  ⟨89, [(.c (.lst [(.int .u8)]))], [(.c (.lst [(.int .i64), (.int .i64)])), (.c .bool)], D30.vctakerd⟩,
  ⟨36, [(.g [.str, .str, (.int .i64), (.int .i64), (.int .i64), (.int .i64), .str, .bool, (.int .i64), (.lst [(.int .i64), (.int .i64)])])], [(.c (.lst [(.int .u8)])), (.c (.int .i64))], E30.vcencode⟩,
  ⟨61, [(.c (.int .i64)), (.c .str), (.p [(.r [(.int .i64), (.lst [(.int .u8)])])])], [], E30.vcenc1⟩,
  ⟨62, [(.c (.int .i64)), (.c (.int .i64)), (.p [(.r [(.int .i64), (.lst [(.int .u8)])])])], [], E30.vcenc2⟩,
  ⟨35, [(.g [.str, .str, (.int .i64), (.int .i64), (.int .i64), (.int .i64), .str, .bool, (.int .i64), (.lst [(.int .i64), (.int .i64)])]), (.g [.str, .str, (.int .i64), (.int .i64), (.int .i64), (.int .i64), .str, .bool, (.int .i64), (.lst [(.int .i64), (.int .i64)])])], [(.c .bool)], E30.vcrsame⟩,
  ⟨29, [(.g [.str, .str, (.int .i64), (.int .i64), (.int .i64), (.int .i64), .str, .bool, (.int .i64), (.lst [(.int .i64), (.int .i64)])])], [(.c (.int .i64))], E30.vcvalid⟩,
  ⟨53, [(.g [.str, .str, (.int .i64), (.int .i64), (.int .i64), (.int .i64), .str, .bool, (.int .i64), (.lst [(.int .i64), (.int .i64)])])], [(.c (.int .i64))], E30.vckind⟩,
  ⟨54, [(.g [.str, .str, (.int .i64), (.int .i64), (.int .i64), (.int .i64), .str, .bool, (.int .i64), (.lst [(.int .i64), (.int .i64)])])], [(.c (.int .i64))], E30.vcvrd⟩,
  ⟨60, [(.c (.lst [(.int .i64), (.int .i64)])), (.c (.lst [(.int .i64), (.int .i64)]))], [(.c .bool)], R26.vcsamerd⟩]
theorem entX_ok : ∀ e ∈ entX, EntOK Try.prog [] e := by
  intro e he
  simp only [entX, List.mem_cons, List.not_mem_nil, or_false] at he
  rcases he with rfl | rfl | rfl | rfl | rfl | rfl | rfl | rfl | rfl | rfl | rfl | rfl | rfl | rfl | rfl | rfl | rfl | rfl | rfl | rfl | rfl | rfl | rfl | rfl | rfl
  · exact O31.awake_ent
  · exact O31.event_ent
  · exact O31.new_ent
  · exact O31.push_ent
  · exact O31.head_ent
  · exact O31.ack_ent
  · exact O31.save_ent
  · exact O31.load_ent
  · exact O31.osame_ent
  · exact O31.sameall_ent
  · exact O31.join_ent
  · exact O31.disc_ent
  · exact O31.clone_ent
  · exact O31.ovalid_ent
  · exact D30.decode_ent
  · exact D30.takefield_ent
  · exact D30.takerd_ent
  · exact E30.encode_ent
  · exact E30.enc1_ent
  · exact E30.enc2_ent
  · exact E30.rsame_ent
  · exact E30.valid_ent
  · exact E30.kind_ent
  · exact E30.vrd_ent
  · exact R26.samerd_ent
theorem ex_fn : Fun Try.prog [] 10 [] [] [tB] (.ok [.bool true]) := fun_of_evalG natX_ok entX_ok 60 (by kernel_rfl)
end Go.Proofs.Ytmkkijgnlohieaa.O31x
