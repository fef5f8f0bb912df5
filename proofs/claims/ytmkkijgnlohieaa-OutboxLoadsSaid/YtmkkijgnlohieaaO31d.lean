/-
  Decoding of any bytes, by the program and by the reference. No conditions stand ahead of what is proved.
-/
import Derived.Test.YtmkkijgnlohieaaO31c
import Derived.Test.YtmkkijgnlohieaaO31l
set_option maxRecDepth 100000
set_option linter.unusedSimpArgs false
set_option linter.unusedVariables false
namespace Go.Proofs.Ytmkkijgnlohieaa.O31d
open Go.Proofs.Ytmkkijgnlohieaa Go.Proofs.Ytmkkijgnlohieaa.Sy Go.Proofs.Ytmkkijgnlohieaa.L7 Go.Proofs.Ytmkkijgnlohieaa.Id Go.Proofs.Ytmkkijgnlohieaa.R26 Go.Proofs.Ytmkkijgnlohieaa.E30 Go.Proofs.Ytmkkijgnlohieaa.D30 Go.Proofs.Ytmkkijgnlohieaa.O31 Go.RowKit Go.WideShapes Go.ChangeShapes Go.ChangeAt
theorem hP : NoNum Try.prog := by unfold NoNum; kernel_rfl
def sgs : Nat → Option (List TS × List TS) := fun _ => none
def vctaketext : VC := (.cal 90 [(.c (.lst [(.int .i64), (.lst [(.int .u8)])])), (.c (.int .i64))] [(.v 0), (.v 1)] [(.c (.lst [(.int .u8)])), (.c .bool)] 2
 (.ret [(.b2s (.v 2))]))
theorem taketext_ent : EntOK Try.prog [] ⟨75, [(.c (.lst [(.int .i64), (.lst [(.int .u8)])])), (.c (.int .i64))], [(.c .str)], vctaketext⟩ :=
  ent_of_gen hP Try.func75 rfl (by decide) (sg := sgs) (by kernel_rfl)
def vctakenum : VC := (.cal 90 [(.c (.lst [(.int .i64), (.lst [(.int .u8)])])), (.c (.int .i64))] [(.v 0), (.v 1)] [(.c (.lst [(.int .u8)])), (.c .bool)] 2
 (.cal 49 [(.c (.lst [(.int .u8)]))] [(.v 2)] [(.c (.int .i64)), (.c (.int .i64))] 4
  (.ite (.v 3)
   (.ite (.cmp .neq (.v 5) (.ki .i64 0))
    (.ret [(.ki .i64 0)])
    (.ret [(.v 4)]))
   (.ret [(.ki .i64 0)]))))
theorem takenum_ent : EntOK Try.prog [] ⟨76, [(.c (.lst [(.int .i64), (.lst [(.int .u8)])])), (.c (.int .i64))], [(.c (.int .i64))], vctakenum⟩ :=
  ent_of_gen hP Try.func76 rfl (by decide) (sg := sgs) (by kernel_rfl)
def vctakeints : VC := (.cal 90 [(.c (.lst [(.int .i64), (.lst [(.int .u8)])])), (.c (.int .i64))] [(.v 0), (.v 1)] [(.c (.lst [(.int .u8)])), (.c .bool)] 2
 (.ite (.v 3)
  (.cal 50 [(.c (.lst [(.int .u8)]))] [(.v 2)] [(.c (.lst [(.lst [(.int .u8)])])), (.c (.int .i64))] 4
   (.loop [(.lst [(.int .i64)]), (.int .i64)] [.nil, (.ki .i64 0)]
    (.ite (.cmp .lss (.v 7) (.len (.v 4)))
     (.ev [(.ob (.cmp .geq (.v 7) (.ki .i64 0))), (.ob (.cmp .lss (.v 7) (.len (.v 4))))]
      (.cal 49 [(.c (.lst [(.int .u8)]))] [(.get (.v 4) (.v 7))] [(.c (.int .i64)), (.c (.int .i64))] 8
       (.ite (.cmp .eql (.v 9) (.ki .i64 0))
        (.ev [(.ob (.cmp .leq (.len (.app (.v 6) (.cons (.v 8) .nil))) (.ki .i64 4294967296)))]
         (.back 0 [(.app (.v 6) (.cons (.v 8) .nil)), (.ar .add .i64 (.v 7) (.ki .i64 1))]))
        (.back 0 [(.v 6), (.ar .add .i64 (.v 7) (.ki .i64 1))]))))
     (.ret [(.v 6)]))))
  (.ret [.nil])))
theorem takeints_ent : EntOK Try.prog [] ⟨91, [(.c (.lst [(.int .i64), (.lst [(.int .u8)])])), (.c (.int .i64))], [(.c (.lst [(.int .i64)]))], vctakeints⟩ :=
  ent_of_gen hP Try.func91 rfl (by decide) (sg := sgs) (by kernel_rfl)
def vcrtakerd : VC := (.cal 91 [(.c (.lst [(.int .i64), (.lst [(.int .u8)])])), (.c (.int .i64))] [(.v 0), (.v 1)] [(.c (.lst [(.int .i64)]))] 2
 (.loop [(.lst [(.int .i64), (.int .i64)]), (.int .i64)] [.nil, (.ki .i64 0)]
  (.ite (.cmp .lss (.ar .add .i64 (.v 4) (.ki .i64 1)) (.len (.v 2)))
   (.ev [(.ob (.cmp .geq (.v 4) (.ki .i64 0))), (.ob (.cmp .lss (.v 4) (.len (.v 2)))), (.ob (.cmp .geq (.ar .add .i64 (.v 4) (.ki .i64 1)) (.ki .i64 0))), (.ob (.cmp .lss (.ar .add .i64 (.v 4) (.ki .i64 1)) (.len (.v 2)))), (.ob (.cmp .leq (.len (.app (.v 3) (.cons (.rc (.cons (.get (.v 2) (.v 4)) (.cons (.get (.v 2) (.ar .add .i64 (.v 4) (.ki .i64 1))) .nil))) .nil))) (.ki .i64 4294967296)))]
    (.back 0 [(.app (.v 3) (.cons (.rc (.cons (.get (.v 2) (.v 4)) (.cons (.get (.v 2) (.ar .add .i64 (.v 4) (.ki .i64 1))) .nil))) .nil)), (.ar .add .i64 (.v 4) (.ki .i64 2))]))
   (.ret [(.v 3)]))))
theorem rtakerd_ent : EntOK Try.prog [] ⟨77, [(.c (.lst [(.int .i64), (.lst [(.int .u8)])])), (.c (.int .i64))], [(.c (.lst [(.int .i64), (.int .i64)]))], vcrtakerd⟩ :=
  ent_of_gen hP Try.func77 rfl (by decide) (sg := sgs) (by kernel_rfl)
def vcsame8 : VC := (.ret [(.seq (.b2s (.v 0)) (.b2s (.v 1)))])
theorem same8_ent : EntOK Try.prog [] ⟨78, [(.c (.lst [(.int .u8)])), (.c (.lst [(.int .u8)]))], [(.c .bool)], vcsame8⟩ :=
  ent_of_gen hP Try.func78 rfl (by decide) (sg := sgs) (by kernel_rfl)
def vcrdecode : VC := (.cal 48 [(.c (.lst [(.int .u8)]))] [(.v 0)] [(.c (.lst [(.int .i64), (.lst [(.int .u8)])])), (.c (.int .i64))] 1
 (.ite (.cmp .neq (.v 2) (.ki .i64 0))
  (.ret [(.rc (.cons (.ks ⟨List.toArray []⟩) (.cons (.ks ⟨List.toArray []⟩) (.cons (.ki .i64 0) (.cons (.ki .i64 0) (.cons (.ki .i64 0) (.cons (.ki .i64 0) (.cons (.ks ⟨List.toArray []⟩) (.cons (.kb false) (.cons (.ki .i64 0) (.cons .nil .nil))))))))))), (.v 2)])
  (.cal 75 [(.c (.lst [(.int .i64), (.lst [(.int .u8)])])), (.c (.int .i64))] [(.v 1), (.ki .i64 1)] [(.c .str)] 3
   (.cal 75 [(.c (.lst [(.int .i64), (.lst [(.int .u8)])])), (.c (.int .i64))] [(.v 1), (.ki .i64 2)] [(.c .str)] 4
    (.cal 76 [(.c (.lst [(.int .i64), (.lst [(.int .u8)])])), (.c (.int .i64))] [(.v 1), (.ki .i64 3)] [(.c (.int .i64))] 5
     (.cal 76 [(.c (.lst [(.int .i64), (.lst [(.int .u8)])])), (.c (.int .i64))] [(.v 1), (.ki .i64 4)] [(.c (.int .i64))] 6
      (.cal 76 [(.c (.lst [(.int .i64), (.lst [(.int .u8)])])), (.c (.int .i64))] [(.v 1), (.ki .i64 5)] [(.c (.int .i64))] 7
       (.cal 76 [(.c (.lst [(.int .i64), (.lst [(.int .u8)])])), (.c (.int .i64))] [(.v 1), (.ki .i64 6)] [(.c (.int .i64))] 8
        (.cal 75 [(.c (.lst [(.int .i64), (.lst [(.int .u8)])])), (.c (.int .i64))] [(.v 1), (.ki .i64 7)] [(.c .str)] 9
         (.cal 76 [(.c (.lst [(.int .i64), (.lst [(.int .u8)])])), (.c (.int .i64))] [(.v 1), (.ki .i64 8)] [(.c (.int .i64))] 10
          (.cal 76 [(.c (.lst [(.int .i64), (.lst [(.int .u8)])])), (.c (.int .i64))] [(.v 1), (.ki .i64 9)] [(.c (.int .i64))] 11
           (.cal 77 [(.c (.lst [(.int .i64), (.lst [(.int .u8)])])), (.c (.int .i64))] [(.v 1), (.ki .i64 10)] [(.c (.lst [(.int .i64), (.int .i64)]))] 12
            (.cal 64 [(.g [.str, .str, (.int .i64), (.int .i64), (.int .i64), (.int .i64), .str, .bool, (.int .i64), (.lst [(.int .i64), (.int .i64)])])] [(.rc (.cons (.v 3) (.cons (.v 4) (.cons (.v 5) (.cons (.v 6) (.cons (.v 7) (.cons (.v 8) (.cons (.v 9) (.cons (.cmp .eql (.v 10) (.ki .i64 1)) (.cons (.v 11) (.cons (.v 12) .nil)))))))))))] [(.c (.lst [(.int .u8)]))] 13
             (.cal 78 [(.c (.lst [(.int .u8)])), (.c (.lst [(.int .u8)]))] [(.v 13), (.v 0)] [(.c .bool)] 14
              (.ite (.v 14)
               (.cal 30 [(.g [.str, .str, (.int .i64), (.int .i64), (.int .i64), (.int .i64), .str, .bool, (.int .i64), (.lst [(.int .i64), (.int .i64)])])] [(.rc (.cons (.v 3) (.cons (.v 4) (.cons (.v 5) (.cons (.v 6) (.cons (.v 7) (.cons (.v 8) (.cons (.v 9) (.cons (.cmp .eql (.v 10) (.ki .i64 1)) (.cons (.v 11) (.cons (.v 12) .nil)))))))))))] [(.c (.int .i64))] 15
                (.ite (.cmp .neq (.v 15) (.ki .i64 0))
                 (.ret [(.rc (.cons (.ks ⟨List.toArray []⟩) (.cons (.ks ⟨List.toArray []⟩) (.cons (.ki .i64 0) (.cons (.ki .i64 0) (.cons (.ki .i64 0) (.cons (.ki .i64 0) (.cons (.ks ⟨List.toArray []⟩) (.cons (.kb false) (.cons (.ki .i64 0) (.cons .nil .nil))))))))))), (.v 15)])
                 (.ret [(.rc (.cons (.v 3) (.cons (.v 4) (.cons (.v 5) (.cons (.v 6) (.cons (.v 7) (.cons (.v 8) (.cons (.v 9) (.cons (.cmp .eql (.v 10) (.ki .i64 1)) (.cons (.v 11) (.cons (.v 12) .nil))))))))))), (.ki .i64 0)])))
               (.ret [(.rc (.cons (.ks ⟨List.toArray []⟩) (.cons (.ks ⟨List.toArray []⟩) (.cons (.ki .i64 0) (.cons (.ki .i64 0) (.cons (.ki .i64 0) (.cons (.ki .i64 0) (.cons (.ks ⟨List.toArray []⟩) (.cons (.kb false) (.cons (.ki .i64 0) (.cons .nil .nil))))))))))), (.ki .i64 5)]))))))))))))))))
theorem rdecode_ent : EntOK Try.prog [] ⟨51, [(.c (.lst [(.int .u8)]))], [(.g [.str, .str, (.int .i64), (.int .i64), (.int .i64), (.int .i64), .str, .bool, (.int .i64), (.lst [(.int .i64), (.int .i64)])]), (.c (.int .i64))], vcrdecode⟩ :=
  ent_of_gen hP Try.func51 rfl (by decide) (sg := sgs) (by kernel_rfl)
def vcrload : VC := (.cal 48 [(.c (.lst [(.int .u8)]))] [(.v 0)] [(.c (.lst [(.int .i64), (.lst [(.int .u8)])])), (.c (.int .i64))] 1
 (.ite (.cmp .neq (.v 2) (.ki .i64 0))
  (.ret [(.rc (.cons (.ki .i64 0) (.cons .nil (.cons (.ki .i64 0) .nil)))), (.v 2)])
  (.ite (.cmp .neq (.len (.v 1)) (.ki .i64 3))
   (.ret [(.rc (.cons (.ki .i64 0) (.cons .nil (.cons (.ki .i64 0) .nil)))), (.ki .i64 5)])
   (.ev [(.ob (.cmp .lss (.ki .i64 0) (.len (.v 1))))]
    (.ite (.cmp .neq (.cell (.get (.v 1) (.ki .i64 0)) 0) (.ki .i64 1))
     (.ret [(.rc (.cons (.ki .i64 0) (.cons .nil (.cons (.ki .i64 0) .nil)))), (.ki .i64 5)])
     (.ev [(.ob (.cmp .lss (.ki .i64 1) (.len (.v 1))))]
      (.ite (.cmp .neq (.cell (.get (.v 1) (.ki .i64 1)) 0) (.ki .i64 2))
       (.ret [(.rc (.cons (.ki .i64 0) (.cons .nil (.cons (.ki .i64 0) .nil)))), (.ki .i64 5)])
       (.ev [(.ob (.cmp .lss (.ki .i64 2) (.len (.v 1))))]
        (.ite (.cmp .neq (.cell (.get (.v 1) (.ki .i64 2)) 0) (.ki .i64 3))
         (.ret [(.rc (.cons (.ki .i64 0) (.cons .nil (.cons (.ki .i64 0) .nil)))), (.ki .i64 5)])
         (.ev [(.ob (.cmp .lss (.ki .i64 0) (.len (.v 1))))]
          (.cal 49 [(.c (.lst [(.int .u8)]))] [(.cell (.get (.v 1) (.ki .i64 0)) 1)] [(.c (.int .i64)), (.c (.int .i64))] 3
           (.ite (.cmp .neq (.v 4) (.ki .i64 0))
            (.ret [(.rc (.cons (.ki .i64 0) (.cons .nil (.cons (.ki .i64 0) .nil)))), (.v 4)])
            (.ev [(.ob (.cmp .lss (.ki .i64 1) (.len (.v 1))))]
             (.cal 49 [(.c (.lst [(.int .u8)]))] [(.cell (.get (.v 1) (.ki .i64 1)) 1)] [(.c (.int .i64)), (.c (.int .i64))] 5
              (.ite (.cmp .neq (.v 6) (.ki .i64 0))
               (.ret [(.rc (.cons (.ki .i64 0) (.cons .nil (.cons (.ki .i64 0) .nil)))), (.v 6)])
               (.ev [(.ob (.cmp .lss (.ki .i64 2) (.len (.v 1))))]
                (.cal 50 [(.c (.lst [(.int .u8)]))] [(.cell (.get (.v 1) (.ki .i64 2)) 1)] [(.c (.lst [(.lst [(.int .u8)])])), (.c (.int .i64))] 7
                 (.ite (.cmp .neq (.v 8) (.ki .i64 0))
                  (.ret [(.rc (.cons (.ki .i64 0) (.cons .nil (.cons (.ki .i64 0) .nil)))), (.v 8)])
                  (.loop [(.int .i64), (.int .i64), (.lst [.str, .str, (.int .i64), (.int .i64), (.int .i64), (.int .i64), .str, .bool, (.int .i64), (.lst [(.int .i64), (.int .i64)])]), (.int .i64), (.int .i64)] [(.v 3), (.v 5), .nil, (.ki .i64 0), (.ki .i64 0)]
                   (.ite (.cmp .lss (.v 13) (.len (.v 7)))
                    (.ev [(.ob (.cmp .geq (.v 13) (.ki .i64 0))), (.ob (.cmp .lss (.v 13) (.len (.v 7))))]
                     (.cal 51 [(.c (.lst [(.int .u8)]))] [(.get (.v 7) (.v 13))] [(.g [.str, .str, (.int .i64), (.int .i64), (.int .i64), (.int .i64), .str, .bool, (.int .i64), (.lst [(.int .i64), (.int .i64)])]), (.c (.int .i64))] 14
                      (.ite (.cmp .neq (.v 24) (.ki .i64 0))
                       (.ret [(.rc (.cons (.ki .i64 0) (.cons .nil (.cons (.ki .i64 0) .nil)))), (.v 24)])
                       (.ev [(.ob (.cmp .leq (.len (.app (.v 11) (.cons (.rc (.cons (.v 14) (.cons (.v 15) (.cons (.v 16) (.cons (.v 17) (.cons (.v 18) (.cons (.v 19) (.cons (.v 20) (.cons (.v 21) (.cons (.v 22) (.cons (.v 23) .nil))))))))))) .nil))) (.ki .i64 4294967296)))]
                        (.back 0 [(.v 9), (.v 10), (.app (.v 11) (.cons (.rc (.cons (.v 14) (.cons (.v 15) (.cons (.v 16) (.cons (.v 17) (.cons (.v 18) (.cons (.v 19) (.cons (.v 20) (.cons (.v 21) (.cons (.v 22) (.cons (.v 23) .nil))))))))))) .nil)), (.v 12), (.ar .add .i64 (.v 13) (.ki .i64 1))])))))
                    (.cal 14 [(.g [(.int .i64), (.lst [.str, .str, (.int .i64), (.int .i64), (.int .i64), (.int .i64), .str, .bool, (.int .i64), (.lst [(.int .i64), (.int .i64)])]), (.int .i64)])] [(.rc (.cons (.v 9) (.cons (.v 11) (.cons (.v 10) .nil))))] [(.c (.int .i64))] 14
                     (.ite (.cmp .neq (.v 14) (.ki .i64 0))
                      (.ret [(.rc (.cons (.ki .i64 0) (.cons .nil (.cons (.ki .i64 0) .nil)))), (.v 14)])
                      (.ret [(.rc (.cons (.v 9) (.cons (.v 11) (.cons (.v 10) .nil)))), (.ki .i64 0)])))))))))))))))))))))))
theorem rload_ent : EntOK Try.prog [] ⟨26, [(.c (.lst [(.int .u8)]))], [(.g [(.int .i64), (.lst [.str, .str, (.int .i64), (.int .i64), (.int .i64), (.int .i64), .str, .bool, (.int .i64), (.lst [(.int .i64), (.int .i64)])]), (.int .i64)]), (.c (.int .i64))], vcrload⟩ :=
  ent_of_gen hP Try.func26 rfl (by decide) (sg := sgs) (by kernel_rfl)

def bytesS (d : List Int) : ByteArray := strD (d.map U8d)
theorem bytesS_size (d : List Int) : (bytesS d).size = d.length := by
  show ((d.map U8d).map fun d => UInt8.ofNat d.toI.toNat).toArray.size = d.length
  simp
theorem sB_bytesS {d : List Int} (hd : isB d) : sB (bytesS d) = d := by
  have : sB (bytesS d) = d.map fun n => (((UInt8.ofNat n.toNat).toNat : Nat) : Int) := by
    simp [sB, bytesS, strD, D.toI, List.map_map, Function.comp_def]
  rw [this]
  conv => rhs; rw [← List.map_id d]
  apply List.map_congr_left
  intro n hn
  have := hd n hn
  rw [UInt8.toNat_ofNat']
  simp only [id]
  omega
def tiO (b : List Int) : Option Int := if (takeIntS b).2 = 0 then some (takeIntS b).1 else none
theorem tiO_put {n : Int} (hn : in64 n) : tiO (putS n) = some n := by
  have hr := read_put hn []
  rw [List.append_nil] at hr
  simp [tiO, takeIntS, hr]
theorem tiO_some {b : List Int} {n : Int} (hb : isB b) (h : tiO b = some n) : b = putS n ∧ in64 n := by
  unfold tiO takeIntS at h
  cases hr : readS b with
  | error e =>
    rw [hr] at h
    have := read_err hr
    simp only [] at h
    split at h
    · omega
    · cases h
  | ok p =>
    obtain ⟨m, r⟩ := p
    rw [hr] at h
    obtain ⟨h1, h2, _, _⟩ := put_read hb hr
    by_cases hr0 : r = []
    · subst hr0
      simp at h
      subst h
      rw [List.append_nil] at h1
      exact ⟨h1, h2⟩
    · simp [hr0] at h
def pairsS : List (List Int) → Option (List (Int × Int))
  | a :: b :: l => match tiO a, tiO b, pairsS l with | some n, some m, some p => some ((n, m) :: p) | _, _, _ => none
  | _ => some []
def takerdS (b : List Int) : List (Int × Int) × Bool := match takeListS b with
  | .error _ => ([], false)
  | .ok l => if l.length % 2 ≠ 0 then ([], false) else match pairsS l with | some p => (p, true) | none => ([], false)
def tfO (c : Evt) (x : Fld) : Option Evt :=
  if x.1 = 1 then (if x.2 = [] then none else some { c with st := bytesS x.2 })
  else if x.1 = 2 then (if x.2 = [] then none else some { c with tx := bytesS x.2 })
  else if x.1 = 7 then (if x.2 = [] then none else some { c with tk := bytesS x.2 })
  else if x.1 = 10 then (if (takerdS x.2).2 = true ∧ (takerdS x.2).1 ≠ [] then some { c with rd := (takerdS x.2).1 } else none)
  else match tiO x.2 with
    | none => none
    | some n => if n = 0 then none else if x.1 = 3 then some { c with co := n } else if x.1 = 4 then some { c with sq := n } else if x.1 = 5 then some { c with ki := n }
      else if x.1 = 6 then some { c with at' := n } else if x.1 = 8 then (if n = 1 then some { c with off := true } else none) else if x.1 = 9 then some { c with re := n } else none
def decF : Evt → List Fld → Option Evt
  | c, [] => some c
  | c, x :: l => match tfO c x with | some c' => decF c' l | none => none
def decS (b : List Int) : Evt × Int := match takeF b with
  | .error e => (ev0, e)
  | .ok l => match decF ev0 l with
    | none => (ev0, 5)
    | some e => if validS e = 0 then (e, 0) else (ev0, validS e)
theorem tnS_err : ∀ (n : Nat) (b : List Int) (e : Int), takeN n b = .error e → e ≠ 0
  | 0, b, e, h => by cases h
  | n + 1, b, e, h => by
    simp only [takeN] at h
    split at h
    · rename_i hd
      cases h
      have := data_err hd
      omega
    · rename_i d r _
      cases hp : takeN n r with
      | error e2 => rw [hp] at h; cases h; exact tnS_err n r e hp
      | ok p => obtain ⟨l, r2⟩ := p; rw [hp] at h; cases h
theorem tlS_err {b : List Int} {e : Int} (h : takeListS b = .error e) : e ≠ 0 := by
  unfold takeListS at h
  split at h
  · rename_i hr
    cases h
    have := read_err hr
    omega
  · split at h
    · cases h; decide
    · split at h
      · cases h; decide
      · split at h
        · rename_i hn; cases h; exact tnS_err _ _ _ hn
        · split at h
          · cases h
          · cases h; decide
theorem tgS_err : ∀ (f : Nat) (before : Int) (c : Nat) (b : List Int) (e : Int), takeG f before c b = .error e → e ≠ 0
  | 0, before, c, b, e, h => by cases h
  | f + 1, before, c, b, e, h => by
    simp only [takeG] at h
    split at h
    · cases h
    · split at h
      · cases h; decide
      · split at h
        · rename_i hr
          cases h
          have := read_err hr
          omega
        · split at h
          · cases h; decide
          · split at h
            · rename_i hd
              cases h
              have := data_err hd
              omega
            · rename_i t r _ _ _ d r2 _
              cases hp : takeG f t (c + 1) r2 with
              | error e2 => rw [hp] at h; cases h; exact tgS_err f t (c + 1) r2 e hp
              | ok l => rw [hp] at h; cases h
theorem tfS_err {b : List Int} {e : Int} (h : takeF b = .error e) : e ≠ 0 := tgS_err _ _ _ _ _ h
/-! the program -/
theorem takerd_gen (b : List Int) (hb : isB b) (hl : b.length ≤ 1000) : Fun Try.prog [] 89 [tY] [bD b] [tR, tB] (.ok [rdD (takerdS b).1, .bool (takerdS b).2]) := by
  refine D30.takerd_ent _ _ ?_
  show D30.vctakerd.den _ _ _ _ _
  unfold D30.vctakerd
  have ht := takel_fn b hb (by omega)
  cases hT : takeListS b with
  | error e =>
    rw [hT] at ht
    have he := tlS_err hT
    refine den_cal [.lst [], I64d e] rfl ht rfl rfl ?_
    (try simp only [List.cons_append, List.nil_append])
    refine den_t (by simp only [E.den, D.toI, D.toB, D.toL, D.toS, D.len, D.mapL, flatD, dE]; exact he) (den_ret ?_)
    have : takerdS b = ([], false) := by unfold takerdS; rw [hT]
    rw [this]
    rfl
  | ok l =>
    rw [hT] at ht
    obtain ⟨_, h256, hx⟩ := put_takeList hb hT
    refine den_cal [bbD l, I64d 0] rfl ht rfl rfl ?_
    (try simp only [List.cons_append, List.nil_append])
    refine den_f rfl ?_
    refine den_ite (fun h => den_ret ?_) (fun h => ?_)
    · simp only [E.den, D.toI, D.toB, D.toL, D.toS, D.len, D.mapL, flatD, dE] at h
      rw [Int.tmod_eq_emod_of_nonneg (by omega)] at h
      have : takerdS b = ([], false) := by unfold takerdS; rw [hT]; simp only []; rw [if_pos (by omega)]
      rw [this]
      rfl
    simp only [E.den, D.toI, D.toB, D.toL, D.toS, D.len, D.mapL, flatD, dE] at h
    rw [Int.tmod_eq_emod_of_nonneg (by omega)] at h
    have hq : IntKind.wrap .i64 ((l.length : Int).tdiv 2) = ((l.length / 2 : Nat) : Int) := by rw [Int.tdiv_eq_ediv_of_nonneg (by omega), wrap_i64 (by omega) (by omega)]; omega
    have hS : takerdS b = match pairsS l with | some p => (p, true) | none => ([], false) := by unfold takerdS; rw [hT]; simp only []; rw [if_neg (by omega)]
    have hbad : pairsS l = none → takerdS b = ([], false) := fun h => by rw [hS, h]
    refine den_ev (evs_ob (by simp only [E.den, D.toI, D.toB, D.toL, D.toS, D.len, D.mapL, flatD, dE, hq]; omega) (evs_ob (by simp only [E.den, D.toI, D.toB, D.toL, D.toS, D.len, D.mapL, flatD, dE, hq]; omega) (evs_nil ?_)))
    refine den_loop (fun xs => ∃ (acc : List (Int × Int)) (z : List D) (q : Bool) (j : Nat), xs = [rdD acc, .lst z, .bool q, I64d (2 * j : Nat)] ∧ 2 * j ≤ l.length ∧ acc.length = j ∧ pairsS l = (match pairsS (l.drop (2 * j)) with | some p => some (acc ++ p) | none => none)) (fun xs => l.length - (xs.getD 3 default).toI.toNat) ⟨[], [], false, 0, rfl, by omega, rfl, by rw [show 2 * 0 = 0 from rfl, List.drop_zero]; cases pairsS l <;> rfl⟩ ?_
    simp only [AllSh]
    intro _ _ zz _ q n _ _ ⟨acc, _, _, j, he, hj, hal, hp⟩
    simp only [List.cons.injEq, D.int.injEq, D.lst.injEq, D.bool.injEq, true_and, and_true] at he
    obtain ⟨rfl, rfl, rfl, rfl⟩ := he
    (try simp only [List.cons_append, List.nil_append])
    refine den_ite (fun k => ?_) (fun k => den_ret ?_)
    · simp only [E.den, D.toI, D.toB, D.toL, D.toS, D.len, D.mapL, flatD, dE] at k
      have hj1 : 2 * j < l.length := by omega
      have hj2 : 2 * j + 1 < l.length := by omega
      rw [drop_get [] hj1, drop_get [] hj2, pairsS] at hp
      have g1 := getD_map (g := bD) (l := l) (i := 2 * j) [] hj1
      have g2 := getD_map (g := bD) (l := l) (i := 2 * j + 1) [] hj2
      have x1 := hx _ (mem_getD [] hj1)
      have x2 := hx _ (mem_getD [] hj2)
      have hw1 : IntKind.wrap .i64 (((2 * j : Nat) : Int) + 1) = ((2 * j + 1 : Nat) : Int) := by rw [wrap_i64 (by omega) (by omega)]; omega
      have hw2 : IntKind.wrap .i64 (((2 * j : Nat) : Int) + 2) = ((2 * (j + 1) : Nat) : Int) := by rw [wrap_i64 (by omega) (by omega)]; omega
      refine den_ev (evs_ob (by simp only [E.den, D.toI, D.toB, D.toL, D.toS, D.len, D.mapL, flatD, dE]; omega) (evs_ob (by simp only [E.den, D.toI, D.toB, D.toL, D.toS, D.len, D.mapL, flatD, dE]; omega) (evs_nil ?_)))
      refine den_cal (tiR (l.getD (2 * j) [])) rfl (takeint_fn (l.getD (2 * j) []) x1.1 (by omega)) (by simp only [E.den, D.toI, D.toB, D.toL, D.toS, D.len, D.mapL, flatD, dE, g1]) rfl ?_
      unfold tiR
      (try simp only [List.cons_append, List.nil_append])
      refine den_ite (fun h1 => den_ret ?_) (fun h1 => ?_)
      · simp only [E.den, D.toI, D.toB, D.toL, D.toS, D.len, D.mapL, flatD, dE] at h1
        have : tiO (l.getD (2 * j) []) = none := by unfold tiO; rw [if_neg h1]
        rw [this] at hp
        rw [hbad hp]
        rfl
      simp only [E.den, D.toI, D.toB, D.toL, D.toS, D.len, D.mapL, flatD, dE] at h1
      have e1 : tiO (l.getD (2 * j) []) = some (takeIntS (l.getD (2 * j) [])).1 := by unfold tiO; rw [if_pos h1]
      refine den_ev (evs_ob (by simp only [E.den, D.toI, D.toB, D.toL, D.toS, D.len, D.mapL, flatD, dE, hw1]; omega) (evs_ob (by simp only [E.den, D.toI, D.toB, D.toL, D.toS, D.len, D.mapL, flatD, dE, hw1]; omega) (evs_nil ?_)))
      refine den_cal (tiR (l.getD (2 * j + 1) [])) rfl (takeint_fn (l.getD (2 * j + 1) []) x2.1 (by omega)) (by simp only [E.den, D.toI, D.toB, D.toL, D.toS, D.len, D.mapL, flatD, dE, hw1, g2]) rfl ?_
      unfold tiR
      (try simp only [List.cons_append, List.nil_append])
      refine den_ite (fun h2 => den_ret ?_) (fun h2 => ?_)
      · simp only [E.den, D.toI, D.toB, D.toL, D.toS, D.len, D.mapL, flatD, dE] at h2
        have : tiO (l.getD (2 * j + 1) []) = none := by unfold tiO; rw [if_neg h2]
        rw [this] at hp
        have hp2 : pairsS l = none := by rw [hp, e1]
        rw [hbad hp2]
        rfl
      simp only [E.den, D.toI, D.toB, D.toL, D.toS, D.len, D.mapL, flatD, dE] at h2
      have e2 : tiO (l.getD (2 * j + 1) []) = some (takeIntS (l.getD (2 * j + 1) [])).1 := by unfold tiO; rw [if_pos h2]
      rw [e1, e2] at hp
      refine den_ev (evs_ob (by simp only [E.den, D.toI, D.toB, D.toL, D.toS, D.len, D.mapL, flatD, dE]; omega) (evs_nil ?_))
      refine den_back rfl ⟨acc ++ [((takeIntS (l.getD (2 * j) [])).1, (takeIntS (l.getD (2 * j + 1) [])).1)], zz, q, j + 1, ?_, by omega, by rw [List.length_append, hal]; rfl, ?_⟩ (by simp only []; simp only [E.den, D.toI, D.toB, D.toL, D.toS, D.len, D.mapL, flatD, dE]; rw [hw2]; omega)
      · simp only [E.den, D.toI, D.toB, D.toL, D.toS, D.len, D.mapL, flatD, dE]
        rw [hw2]
        simp
      · rw [hp, show 2 * (j + 1) = 2 * j + 1 + 1 by omega]
        cases pairsS (l.drop (2 * j + 1 + 1)) <;> simp
    · simp only [E.den, D.toI, D.toB, D.toL, D.toS, D.len, D.mapL, flatD, dE] at k
      have hj' : 2 * j = l.length := by omega
      rw [hj', List.drop_length] at hp
      simp only [show pairsS [] = some [] from rfl, List.append_nil] at hp
      rw [hS, hp]
      simp only [E.den, D.toI, D.toB, D.toL, D.toS, D.len, D.mapL, flatD, dE]
theorem takefield_gen (c : Evt) (x : Fld) (hb : isB x.2) (hl : x.2.length ≤ 1000) : ∃ c' : Evt, Fun Try.prog [] 72 [.p [.s .str, .s .str, .s (.int .i64), .s (.int .i64), .s (.int .i64), .s (.int .i64), .s .str, .s .bool, .s (.int .i64), .s (.lst [.int .i64, .int .i64])], .g [.int .i64, .lst [.int .u8]]] [.rc (evL c), fD x] [tB] (.ok [.bool (tfO c x).isSome, .rc (evL c')]) ∧ ∀ e, tfO c x = some e → c' = e := by
  have key : ∀ (c' : Evt) (r : Bool), (D30.vctakefield.den Try.prog [] (fun r' => r' = .ok [.bool r, .rc (evL c')]) [] (flatD [.p [.s .str, .s .str, .s (.int .i64), .s (.int .i64), .s (.int .i64), .s (.int .i64), .s .str, .s .bool, .s (.int .i64), .s (.lst [.int .i64, .int .i64])], .g [.int .i64, .lst [.int .u8]]] [.rc (evL c), fD x])) → Fun Try.prog [] 72 [.p [.s .str, .s .str, .s (.int .i64), .s (.int .i64), .s (.int .i64), .s (.int .i64), .s .str, .s .bool, .s (.int .i64), .s (.lst [.int .i64, .int .i64])], .g [.int .i64, .lst [.int .u8]]] [.rc (evL c), fD x] [tB] (.ok [.bool r, .rc (evL c')]) := fun c' r h => D30.takefield_ent _ _ h
  have hsz := bytesS_size x.2
  by_cases n1 : x.1 = 1
  · have hv : tfO c x = if x.2 = [] then none else some { c with st := bytesS x.2 } := by unfold tfO; rw [if_pos n1]
    refine ⟨{ c with st := bytesS x.2 }, key _ _ ?_, fun e he => ?_⟩
    · unfold D30.vctakefield
      refine den_t (by simp only [E.den, D.toI, D.toB, D.toL, D.toS, D.len, D.mapL, flatD, dE]; exact n1) (den_ret ?_)
      simp only [E.den, D.toI, D.toB, D.toL, D.toS, D.len, D.mapL, flatD, dE, str_eq, emp_iff]
      rw [hv]
      have e2 : strD (x.2.map U8d) = bytesS x.2 := rfl
      rw [e2, hsz]
      by_cases h0 : x.2 = []
      · simp [h0]
      · have : x.2.length ≠ 0 := fun c => h0 (List.length_eq_zero_iff.1 c)
        simp [h0]
    · rw [hv] at he
      split at he
      · cases he
      · cases he; rfl
  by_cases n2 : x.1 = 2
  · have hv : tfO c x = if x.2 = [] then none else some { c with tx := bytesS x.2 } := by unfold tfO; rw [if_neg n1, if_pos n2]
    refine ⟨{ c with tx := bytesS x.2 }, key _ _ ?_, fun e he => ?_⟩
    · unfold D30.vctakefield
      refine den_f (by simp only [E.den, D.toI, D.toB, D.toL, D.toS, D.len, D.mapL, flatD, dE]; exact n1) ?_
      refine den_t (by simp only [E.den, D.toI, D.toB, D.toL, D.toS, D.len, D.mapL, flatD, dE]; exact n2) (den_ret ?_)
      simp only [E.den, D.toI, D.toB, D.toL, D.toS, D.len, D.mapL, flatD, dE, str_eq, emp_iff]
      rw [hv]
      have e2 : strD (x.2.map U8d) = bytesS x.2 := rfl
      rw [e2, hsz]
      by_cases h0 : x.2 = []
      · simp [h0]
      · have : x.2.length ≠ 0 := fun c => h0 (List.length_eq_zero_iff.1 c)
        simp [h0]
    · rw [hv] at he
      split at he
      · cases he
      · cases he; rfl
  by_cases n7 : x.1 = 7
  · have hv : tfO c x = if x.2 = [] then none else some { c with tk := bytesS x.2 } := by unfold tfO; rw [if_neg n1, if_neg n2, if_pos n7]
    refine ⟨{ c with tk := bytesS x.2 }, key _ _ ?_, fun e he => ?_⟩
    · unfold D30.vctakefield
      refine den_f (by simp only [E.den, D.toI, D.toB, D.toL, D.toS, D.len, D.mapL, flatD, dE]; exact n1) ?_
      refine den_f (by simp only [E.den, D.toI, D.toB, D.toL, D.toS, D.len, D.mapL, flatD, dE]; exact n2) ?_
      refine den_t (by simp only [E.den, D.toI, D.toB, D.toL, D.toS, D.len, D.mapL, flatD, dE]; exact n7) (den_ret ?_)
      simp only [E.den, D.toI, D.toB, D.toL, D.toS, D.len, D.mapL, flatD, dE, str_eq, emp_iff]
      rw [hv]
      have e2 : strD (x.2.map U8d) = bytesS x.2 := rfl
      rw [e2, hsz]
      by_cases h0 : x.2 = []
      · simp [h0]
      · have : x.2.length ≠ 0 := fun c => h0 (List.length_eq_zero_iff.1 c)
        simp [h0]
    · rw [hv] at he
      split at he
      · cases he
      · cases he; rfl
  by_cases n10 : x.1 = 10
  · have hv : tfO c x = if (takerdS x.2).2 = true ∧ (takerdS x.2).1 ≠ [] then some { c with rd := (takerdS x.2).1 } else none := by unfold tfO; rw [if_neg n1, if_neg n2, if_neg n7, if_pos n10]
    refine ⟨{ c with rd := (takerdS x.2).1 }, key _ _ ?_, fun e he => ?_⟩
    · unfold D30.vctakefield
      refine den_f (by simp only [E.den, D.toI, D.toB, D.toL, D.toS, D.len, D.mapL, flatD, dE]; exact n1) (den_f (by simp only [E.den, D.toI, D.toB, D.toL, D.toS, D.len, D.mapL, flatD, dE]; exact n2) (den_f (by simp only [E.den, D.toI, D.toB, D.toL, D.toS, D.len, D.mapL, flatD, dE]; exact n7) (den_t (by simp only [E.den, D.toI, D.toB, D.toL, D.toS, D.len, D.mapL, flatD, dE]; exact n10) ?_)))
      refine den_cal [rdD (takerdS x.2).1, .bool (takerdS x.2).2] rfl (takerd_gen x.2 hb hl) rfl rfl ?_
      (try simp only [List.cons_append, List.nil_append])
      rw [hv]
      refine den_ite (fun h => den_ret ?_) (fun h => den_ret ?_)
      · simp only [E.den, D.toI, D.toB, D.toL, D.toS, D.len, D.mapL, flatD, dE] at h
        simp only [E.den, D.toI, D.toB, D.toL, D.toS, D.len, D.mapL, flatD, dE]
        by_cases h0 : (takerdS x.2).1 = []
        · simp [h0]
        · have : 0 < (takerdS x.2).1.length := List.length_pos_iff.2 h0
          simp [h0, h]
          exact this
      · simp only [E.den, D.toI, D.toB, D.toL, D.toS, D.len, D.mapL, flatD, dE] at h
        simp only [E.den, D.toI, D.toB, D.toL, D.toS, D.len, D.mapL, flatD, dE]
        simp [h]
    · rw [hv] at he
      split at he
      · cases he; rfl
      · cases he
  have ht := takeint_fn x.2 hb (by omega)
  by_cases z1 : (takeIntS x.2).2 = 0
  rotate_left
  · have hti : tiO x.2 = none := by unfold tiO; rw [if_neg z1]
    have hv : tfO c x = none := by unfold tfO; rw [if_neg n1, if_neg n2, if_neg n7, if_neg n10, hti]
    refine ⟨c, key _ _ ?_, fun e he => by rw [hv] at he; cases he⟩
    · unfold D30.vctakefield
      refine den_f (by simp only [E.den, D.toI, D.toB, D.toL, D.toS, D.len, D.mapL, flatD, dE]; exact n1) (den_f (by simp only [E.den, D.toI, D.toB, D.toL, D.toS, D.len, D.mapL, flatD, dE]; exact n2) (den_f (by simp only [E.den, D.toI, D.toB, D.toL, D.toS, D.len, D.mapL, flatD, dE]; exact n7) (den_f (by simp only [E.den, D.toI, D.toB, D.toL, D.toS, D.len, D.mapL, flatD, dE]; exact n10) ?_)))
      refine den_cal (tiR x.2) rfl ht rfl rfl ?_
      unfold tiR
      (try simp only [List.cons_append, List.nil_append])
      refine den_t (by simp only [E.den, D.toI, D.toB, D.toL, D.toS, D.len, D.mapL, flatD, dE]; exact z1) (den_ret ?_)
      rw [hv]
      rfl
  have hti : tiO x.2 = some (takeIntS x.2).1 := by unfold tiO; rw [if_pos z1]
  by_cases z2 : (takeIntS x.2).1 = 0
  · have hv : tfO c x = none := by unfold tfO; rw [if_neg n1, if_neg n2, if_neg n7, if_neg n10, hti]; simp only []; rw [if_pos z2]
    refine ⟨c, key _ _ ?_, fun e he => by rw [hv] at he; cases he⟩
    · unfold D30.vctakefield
      refine den_f (by simp only [E.den, D.toI, D.toB, D.toL, D.toS, D.len, D.mapL, flatD, dE]; exact n1) (den_f (by simp only [E.den, D.toI, D.toB, D.toL, D.toS, D.len, D.mapL, flatD, dE]; exact n2) (den_f (by simp only [E.den, D.toI, D.toB, D.toL, D.toS, D.len, D.mapL, flatD, dE]; exact n7) (den_f (by simp only [E.den, D.toI, D.toB, D.toL, D.toS, D.len, D.mapL, flatD, dE]; exact n10) ?_)))
      refine den_cal (tiR x.2) rfl ht rfl rfl ?_
      unfold tiR
      (try simp only [List.cons_append, List.nil_append])
      refine den_f (by simp only [E.den, D.toI, D.toB, D.toL, D.toS, D.len, D.mapL, flatD, dE]; exact z1) (den_t (by simp only [E.den, D.toI, D.toB, D.toL, D.toS, D.len, D.mapL, flatD, dE]; exact z2) (den_ret ?_))
      rw [hv]
      rfl
  have hv0 : tfO c x = if x.1 = 3 then some { c with co := (takeIntS x.2).1 } else if x.1 = 4 then some { c with sq := (takeIntS x.2).1 } else if x.1 = 5 then some { c with ki := (takeIntS x.2).1 }
      else if x.1 = 6 then some { c with at' := (takeIntS x.2).1 } else if x.1 = 8 then (if (takeIntS x.2).1 = 1 then some { c with off := true } else none) else if x.1 = 9 then some { c with re := (takeIntS x.2).1 } else none := by unfold tfO; rw [if_neg n1, if_neg n2, if_neg n7, if_neg n10, hti]; simp only []; rw [if_neg z2]
  by_cases n3 : x.1 = 3
  · have hv : tfO c x = some { c with co := (takeIntS x.2).1 } := by rw [hv0, if_pos n3]
    refine ⟨{ c with co := (takeIntS x.2).1 }, key _ _ ?_, fun e he => by rw [hv] at he; cases he; rfl⟩
    · unfold D30.vctakefield
      refine den_f (by simp only [E.den, D.toI, D.toB, D.toL, D.toS, D.len, D.mapL, flatD, dE]; exact n1) (den_f (by simp only [E.den, D.toI, D.toB, D.toL, D.toS, D.len, D.mapL, flatD, dE]; exact n2) (den_f (by simp only [E.den, D.toI, D.toB, D.toL, D.toS, D.len, D.mapL, flatD, dE]; exact n7) (den_f (by simp only [E.den, D.toI, D.toB, D.toL, D.toS, D.len, D.mapL, flatD, dE]; exact n10) ?_)))
      refine den_cal (tiR x.2) rfl ht rfl rfl ?_
      unfold tiR
      (try simp only [List.cons_append, List.nil_append])
      refine den_f (by simp only [E.den, D.toI, D.toB, D.toL, D.toS, D.len, D.mapL, flatD, dE]; exact z1) (den_f (by simp only [E.den, D.toI, D.toB, D.toL, D.toS, D.len, D.mapL, flatD, dE]; exact z2) ?_)
      refine den_t (by simp only [E.den, D.toI, D.toB, D.toL, D.toS, D.len, D.mapL, flatD, dE]; exact n3) (den_ret ?_)
      rw [hv]
      rfl
  by_cases n4 : x.1 = 4
  · have hv : tfO c x = some { c with sq := (takeIntS x.2).1 } := by rw [hv0, if_neg n3, if_pos n4]
    refine ⟨{ c with sq := (takeIntS x.2).1 }, key _ _ ?_, fun e he => by rw [hv] at he; cases he; rfl⟩
    · unfold D30.vctakefield
      refine den_f (by simp only [E.den, D.toI, D.toB, D.toL, D.toS, D.len, D.mapL, flatD, dE]; exact n1) (den_f (by simp only [E.den, D.toI, D.toB, D.toL, D.toS, D.len, D.mapL, flatD, dE]; exact n2) (den_f (by simp only [E.den, D.toI, D.toB, D.toL, D.toS, D.len, D.mapL, flatD, dE]; exact n7) (den_f (by simp only [E.den, D.toI, D.toB, D.toL, D.toS, D.len, D.mapL, flatD, dE]; exact n10) ?_)))
      refine den_cal (tiR x.2) rfl ht rfl rfl ?_
      unfold tiR
      (try simp only [List.cons_append, List.nil_append])
      refine den_f (by simp only [E.den, D.toI, D.toB, D.toL, D.toS, D.len, D.mapL, flatD, dE]; exact z1) (den_f (by simp only [E.den, D.toI, D.toB, D.toL, D.toS, D.len, D.mapL, flatD, dE]; exact z2) ?_)
      refine den_f (by simp only [E.den, D.toI, D.toB, D.toL, D.toS, D.len, D.mapL, flatD, dE]; exact n3) ?_
      refine den_t (by simp only [E.den, D.toI, D.toB, D.toL, D.toS, D.len, D.mapL, flatD, dE]; exact n4) (den_ret ?_)
      rw [hv]
      rfl
  by_cases n5 : x.1 = 5
  · have hv : tfO c x = some { c with ki := (takeIntS x.2).1 } := by rw [hv0, if_neg n3, if_neg n4, if_pos n5]
    refine ⟨{ c with ki := (takeIntS x.2).1 }, key _ _ ?_, fun e he => by rw [hv] at he; cases he; rfl⟩
    · unfold D30.vctakefield
      refine den_f (by simp only [E.den, D.toI, D.toB, D.toL, D.toS, D.len, D.mapL, flatD, dE]; exact n1) (den_f (by simp only [E.den, D.toI, D.toB, D.toL, D.toS, D.len, D.mapL, flatD, dE]; exact n2) (den_f (by simp only [E.den, D.toI, D.toB, D.toL, D.toS, D.len, D.mapL, flatD, dE]; exact n7) (den_f (by simp only [E.den, D.toI, D.toB, D.toL, D.toS, D.len, D.mapL, flatD, dE]; exact n10) ?_)))
      refine den_cal (tiR x.2) rfl ht rfl rfl ?_
      unfold tiR
      (try simp only [List.cons_append, List.nil_append])
      refine den_f (by simp only [E.den, D.toI, D.toB, D.toL, D.toS, D.len, D.mapL, flatD, dE]; exact z1) (den_f (by simp only [E.den, D.toI, D.toB, D.toL, D.toS, D.len, D.mapL, flatD, dE]; exact z2) ?_)
      refine den_f (by simp only [E.den, D.toI, D.toB, D.toL, D.toS, D.len, D.mapL, flatD, dE]; exact n3) ?_
      refine den_f (by simp only [E.den, D.toI, D.toB, D.toL, D.toS, D.len, D.mapL, flatD, dE]; exact n4) ?_
      refine den_t (by simp only [E.den, D.toI, D.toB, D.toL, D.toS, D.len, D.mapL, flatD, dE]; exact n5) (den_ret ?_)
      rw [hv]
      rfl
  by_cases n6 : x.1 = 6
  · have hv : tfO c x = some { c with at' := (takeIntS x.2).1 } := by rw [hv0, if_neg n3, if_neg n4, if_neg n5, if_pos n6]
    refine ⟨{ c with at' := (takeIntS x.2).1 }, key _ _ ?_, fun e he => by rw [hv] at he; cases he; rfl⟩
    · unfold D30.vctakefield
      refine den_f (by simp only [E.den, D.toI, D.toB, D.toL, D.toS, D.len, D.mapL, flatD, dE]; exact n1) (den_f (by simp only [E.den, D.toI, D.toB, D.toL, D.toS, D.len, D.mapL, flatD, dE]; exact n2) (den_f (by simp only [E.den, D.toI, D.toB, D.toL, D.toS, D.len, D.mapL, flatD, dE]; exact n7) (den_f (by simp only [E.den, D.toI, D.toB, D.toL, D.toS, D.len, D.mapL, flatD, dE]; exact n10) ?_)))
      refine den_cal (tiR x.2) rfl ht rfl rfl ?_
      unfold tiR
      (try simp only [List.cons_append, List.nil_append])
      refine den_f (by simp only [E.den, D.toI, D.toB, D.toL, D.toS, D.len, D.mapL, flatD, dE]; exact z1) (den_f (by simp only [E.den, D.toI, D.toB, D.toL, D.toS, D.len, D.mapL, flatD, dE]; exact z2) ?_)
      refine den_f (by simp only [E.den, D.toI, D.toB, D.toL, D.toS, D.len, D.mapL, flatD, dE]; exact n3) ?_
      refine den_f (by simp only [E.den, D.toI, D.toB, D.toL, D.toS, D.len, D.mapL, flatD, dE]; exact n4) ?_
      refine den_f (by simp only [E.den, D.toI, D.toB, D.toL, D.toS, D.len, D.mapL, flatD, dE]; exact n5) ?_
      refine den_t (by simp only [E.den, D.toI, D.toB, D.toL, D.toS, D.len, D.mapL, flatD, dE]; exact n6) (den_ret ?_)
      rw [hv]
      rfl
  by_cases n8 : x.1 = 8
  · have hv : tfO c x = if (takeIntS x.2).1 = 1 then some { c with off := true } else none := by rw [hv0, if_neg n3, if_neg n4, if_neg n5, if_neg n6, if_pos n8]
    refine ⟨{ c with off := true }, key _ _ ?_, fun e he => ?_⟩
    · unfold D30.vctakefield
      refine den_f (by simp only [E.den, D.toI, D.toB, D.toL, D.toS, D.len, D.mapL, flatD, dE]; exact n1) (den_f (by simp only [E.den, D.toI, D.toB, D.toL, D.toS, D.len, D.mapL, flatD, dE]; exact n2) (den_f (by simp only [E.den, D.toI, D.toB, D.toL, D.toS, D.len, D.mapL, flatD, dE]; exact n7) (den_f (by simp only [E.den, D.toI, D.toB, D.toL, D.toS, D.len, D.mapL, flatD, dE]; exact n10) ?_)))
      refine den_cal (tiR x.2) rfl ht rfl rfl ?_
      unfold tiR
      (try simp only [List.cons_append, List.nil_append])
      refine den_f (by simp only [E.den, D.toI, D.toB, D.toL, D.toS, D.len, D.mapL, flatD, dE]; exact z1) (den_f (by simp only [E.den, D.toI, D.toB, D.toL, D.toS, D.len, D.mapL, flatD, dE]; exact z2) ?_)
      refine den_f (by simp only [E.den, D.toI, D.toB, D.toL, D.toS, D.len, D.mapL, flatD, dE]; exact n3) ?_
      refine den_f (by simp only [E.den, D.toI, D.toB, D.toL, D.toS, D.len, D.mapL, flatD, dE]; exact n4) ?_
      refine den_f (by simp only [E.den, D.toI, D.toB, D.toL, D.toS, D.len, D.mapL, flatD, dE]; exact n5) ?_
      refine den_f (by simp only [E.den, D.toI, D.toB, D.toL, D.toS, D.len, D.mapL, flatD, dE]; exact n6) ?_
      refine den_t (by simp only [E.den, D.toI, D.toB, D.toL, D.toS, D.len, D.mapL, flatD, dE]; exact n8) (den_ret ?_)
      rw [hv]
      simp only [E.den, D.toI, D.toB, D.toL, D.toS, D.len, D.mapL, flatD, dE]
      by_cases h1 : (takeIntS x.2).1 = 1 <;> simp [h1]
    · rw [hv] at he
      split at he
      · cases he; rfl
      · cases he
  by_cases n9 : x.1 = 9
  · have hv : tfO c x = some { c with re := (takeIntS x.2).1 } := by rw [hv0, if_neg n3, if_neg n4, if_neg n5, if_neg n6, if_neg n8, if_pos n9]
    refine ⟨{ c with re := (takeIntS x.2).1 }, key _ _ ?_, fun e he => by rw [hv] at he; cases he; rfl⟩
    · unfold D30.vctakefield
      refine den_f (by simp only [E.den, D.toI, D.toB, D.toL, D.toS, D.len, D.mapL, flatD, dE]; exact n1) (den_f (by simp only [E.den, D.toI, D.toB, D.toL, D.toS, D.len, D.mapL, flatD, dE]; exact n2) (den_f (by simp only [E.den, D.toI, D.toB, D.toL, D.toS, D.len, D.mapL, flatD, dE]; exact n7) (den_f (by simp only [E.den, D.toI, D.toB, D.toL, D.toS, D.len, D.mapL, flatD, dE]; exact n10) ?_)))
      refine den_cal (tiR x.2) rfl ht rfl rfl ?_
      unfold tiR
      (try simp only [List.cons_append, List.nil_append])
      refine den_f (by simp only [E.den, D.toI, D.toB, D.toL, D.toS, D.len, D.mapL, flatD, dE]; exact z1) (den_f (by simp only [E.den, D.toI, D.toB, D.toL, D.toS, D.len, D.mapL, flatD, dE]; exact z2) ?_)
      refine den_f (by simp only [E.den, D.toI, D.toB, D.toL, D.toS, D.len, D.mapL, flatD, dE]; exact n3) ?_
      refine den_f (by simp only [E.den, D.toI, D.toB, D.toL, D.toS, D.len, D.mapL, flatD, dE]; exact n4) ?_
      refine den_f (by simp only [E.den, D.toI, D.toB, D.toL, D.toS, D.len, D.mapL, flatD, dE]; exact n5) ?_
      refine den_f (by simp only [E.den, D.toI, D.toB, D.toL, D.toS, D.len, D.mapL, flatD, dE]; exact n6) ?_
      refine den_f (by simp only [E.den, D.toI, D.toB, D.toL, D.toS, D.len, D.mapL, flatD, dE]; exact n8) ?_
      refine den_t (by simp only [E.den, D.toI, D.toB, D.toL, D.toS, D.len, D.mapL, flatD, dE]; exact n9) (den_ret ?_)
      rw [hv]
      rfl
  have hv : tfO c x = none := by rw [hv0, if_neg n3, if_neg n4, if_neg n5, if_neg n6, if_neg n8, if_neg n9]
  refine ⟨c, key _ _ ?_, fun e he => by rw [hv] at he; cases he⟩
  unfold D30.vctakefield
  refine den_f (by simp only [E.den, D.toI, D.toB, D.toL, D.toS, D.len, D.mapL, flatD, dE]; exact n1) (den_f (by simp only [E.den, D.toI, D.toB, D.toL, D.toS, D.len, D.mapL, flatD, dE]; exact n2) (den_f (by simp only [E.den, D.toI, D.toB, D.toL, D.toS, D.len, D.mapL, flatD, dE]; exact n7) (den_f (by simp only [E.den, D.toI, D.toB, D.toL, D.toS, D.len, D.mapL, flatD, dE]; exact n10) ?_)))
  refine den_cal (tiR x.2) rfl ht rfl rfl ?_
  unfold tiR
  (try simp only [List.cons_append, List.nil_append])
  refine den_f (by simp only [E.den, D.toI, D.toB, D.toL, D.toS, D.len, D.mapL, flatD, dE]; exact z1) (den_f (by simp only [E.den, D.toI, D.toB, D.toL, D.toS, D.len, D.mapL, flatD, dE]; exact z2) ?_)
  refine den_f (by simp only [E.den, D.toI, D.toB, D.toL, D.toS, D.len, D.mapL, flatD, dE]; exact n3) ?_
  refine den_f (by simp only [E.den, D.toI, D.toB, D.toL, D.toS, D.len, D.mapL, flatD, dE]; exact n4) ?_
  refine den_f (by simp only [E.den, D.toI, D.toB, D.toL, D.toS, D.len, D.mapL, flatD, dE]; exact n5) ?_
  refine den_f (by simp only [E.den, D.toI, D.toB, D.toL, D.toS, D.len, D.mapL, flatD, dE]; exact n6) ?_
  refine den_f (by simp only [E.den, D.toI, D.toB, D.toL, D.toS, D.len, D.mapL, flatD, dE]; exact n8) ?_
  refine den_f (by simp only [E.den, D.toI, D.toB, D.toL, D.toS, D.len, D.mapL, flatD, dE]; exact n9) ?_
  refine den_ret ?_
  rw [hv]
  rfl
end Go.Proofs.Ytmkkijgnlohieaa.O31d
set_option maxRecDepth 100000
set_option linter.unusedSimpArgs false
set_option linter.unusedVariables false
namespace Go.Proofs.Ytmkkijgnlohieaa.O31d
open Go.Proofs.Ytmkkijgnlohieaa Go.Proofs.Ytmkkijgnlohieaa.Sy Go.Proofs.Ytmkkijgnlohieaa.L7 Go.Proofs.Ytmkkijgnlohieaa.Id Go.Proofs.Ytmkkijgnlohieaa.R26 Go.Proofs.Ytmkkijgnlohieaa.E30 Go.Proofs.Ytmkkijgnlohieaa.D30 Go.Proofs.Ytmkkijgnlohieaa.O31 Go.RowKit Go.WideShapes Go.ChangeShapes Go.ChangeAt

theorem pairsS_facts : ∀ {l : List (List Int)} {p : List (Int × Int)}, (∀ d ∈ l, isB d) → l.length % 2 = 0 → pairsS l = some p → rdP p = l ∧ (∀ x ∈ p, inI x.1 ∧ inI x.2) ∧ 2 * p.length = l.length
  | [], p, _, _, h => by simp only [pairsS, Option.some.injEq] at h; subst h; exact ⟨rfl, (fun x hx => by cases hx), rfl⟩
  | [a], p, _, hl, h => by simp at hl
  | a :: b :: l, p, hb, hl, h => by
    simp only [pairsS] at h
    split at h
    · rename_i n m q h1 h2 h3
      cases h
      obtain ⟨e1, e2⟩ := tiO_some (hb a (by simp)) h1
      obtain ⟨e3, e4⟩ := tiO_some (hb b (by simp)) h2
      obtain ⟨g1, g2, g3⟩ := pairsS_facts (fun d hd => hb d (by simp [hd])) (by simp only [List.length_cons] at hl; omega) h3
      refine ⟨?_, fun x hx => ?_, ?_⟩
      · show putS n :: putS m :: rdP q = _
        rw [g1, ← e1, ← e3]
      · rcases List.mem_cons.1 hx with rfl | hx
        · exact ⟨e2, e4⟩
        · exact g2 x hx
      · simp only [List.length_cons]; omega
    · cases h
theorem takerdS_T {b : List Int} (hb : isB b) : (takerdS b).1.length ≤ 128 ∧ (∀ x ∈ (takerdS b).1, inI x.1 ∧ inI x.2) ∧ ((takerdS b).2 = true → putL (rdP (takerdS b).1) = b) := by
  unfold takerdS
  cases hT : takeListS b with
  | error e => exact ⟨by simp, (fun x hx => by cases hx), fun h => by cases h⟩
  | ok l =>
    obtain ⟨h1, h2, h3⟩ := put_takeList hb hT
    simp only []
    split
    · exact ⟨by simp, (fun x hx => by cases hx), fun h => by cases h⟩
    · rename_i h0
      cases hp : pairsS l with
      | none => exact ⟨by simp, (fun x hx => by cases hx), fun h => by cases h⟩
      | some p =>
        obtain ⟨g1, g2, g3⟩ := pairsS_facts (fun d hd => (h3 d hd).1) (by omega) hp
        exact ⟨by simp only []; omega, g2, fun _ => by simp only []; rw [g1, h1]⟩
theorem tfO_T {c e : Evt} {x : Fld} (hc : EvT c) (hb : isB x.2) (hl : x.2.length ≤ 1000) (h : tfO c x = some e) : EvT e := by
  have hsz : (bytesS x.2).size ≤ maxLen := by rw [bytesS_size]; unfold maxLen; omega
  have hrd := takerdS_T hb
  unfold tfO at h
  by_cases n1 : x.1 = 1
  · rw [if_pos n1] at h
    split at h
    · cases h
    · cases h; exact { hc with st := hsz }
  rw [if_neg n1] at h
  by_cases n2 : x.1 = 2
  · rw [if_pos n2] at h
    split at h
    · cases h
    · cases h; exact { hc with tx := hsz }
  rw [if_neg n2] at h
  by_cases n7 : x.1 = 7
  · rw [if_pos n7] at h
    split at h
    · cases h
    · cases h; exact { hc with tk := hsz }
  rw [if_neg n7] at h
  by_cases n10 : x.1 = 10
  · rw [if_pos n10] at h
    split at h
    · cases h
      exact { hc with rl := by have := hrd.1; simp only []; unfold maxLen; omega, rd := hrd.2.1 }
    · cases h
  rw [if_neg n10] at h
  cases hn : tiO x.2 with
  | none => rw [hn] at h; cases h
  | some n =>
    rw [hn] at h
    have hn2 := (tiO_some hb hn).2
    simp only [] at h
    by_cases z : n = 0
    · rw [if_pos z] at h; cases h
    rw [if_neg z] at h
    by_cases n3 : x.1 = 3
    · rw [if_pos n3] at h; cases h; exact { hc with co := hn2 }
    rw [if_neg n3] at h
    by_cases n4 : x.1 = 4
    · rw [if_pos n4] at h; cases h; exact { hc with sq := hn2 }
    rw [if_neg n4] at h
    by_cases n5 : x.1 = 5
    · rw [if_pos n5] at h; cases h; exact { hc with ki := hn2 }
    rw [if_neg n5] at h
    by_cases n6 : x.1 = 6
    · rw [if_pos n6] at h; cases h; exact { hc with at' := hn2 }
    rw [if_neg n6] at h
    by_cases n8 : x.1 = 8
    · rw [if_pos n8] at h
      split at h
      · cases h; exact { hc with }
      · cases h
    rw [if_neg n8] at h
    by_cases n9 : x.1 = 9
    · rw [if_pos n9] at h; cases h; exact { hc with re := hn2 }
    rw [if_neg n9] at h
    cases h
theorem decode_gen (b : List Int) (hb : isB b) (hl : b.length ≤ 1000) : Fun Try.prog [] 47 [tY] [bD b] [tE, tI] (.ok [evD (decS b).1, I64d (decS b).2]) := by
  refine D30.decode_ent _ _ ?_
  show D30.vcdecode.den _ _ _ _ _
  unfold D30.vcdecode
  have ht := take_fn b hb (by omega)
  cases hT : takeF b with
  | error e =>
    rw [hT] at ht
    have he := tfS_err hT
    refine den_cal [.lst [], I64d e] rfl ht rfl rfl ?_
    (try simp only [List.cons_append, List.nil_append])
    refine den_t (by simp only [E.den, D.toI, D.toB, D.toL, D.toS, D.len, D.mapL, flatD, dE]; exact he) (den_ret ?_)
    have : decS b = (ev0, e) := by unfold decS; rw [hT]
    rw [this]
    rfl
  | ok l =>
    rw [hT] at ht
    obtain ⟨_, hlen, hx⟩ := put_take b.length 0 0 b l hb (by omega) (by omega) hT
    have h256 : l.length ≤ 256 := by
      by_cases h0 : l = []
      · rw [h0]; simp
      · have := hlen h0; omega
    have hS : decS b = match decF ev0 l with | none => (ev0, 5) | some e => if validS e = 0 then (e, 0) else (ev0, validS e) := by unfold decS; rw [hT] <;> rfl
    refine den_cal [fsD l, I64d 0] rfl ht rfl rfl ?_
    (try simp only [List.cons_append, List.nil_append])
    refine den_f rfl ?_
    refine den_loop (fun xs => ∃ (c : Evt) (z : Int) (i : Nat), xs = evL c ++ [I64d z, I64d i] ∧ i ≤ l.length ∧ EvT c ∧ decF ev0 l = decF c (l.drop i)) (fun xs => l.length - (xs.getD 11 default).toI.toNat) ⟨ev0, 0, 0, rfl, by omega, ev0_T, rfl⟩ ?_
    simp only [AllSh]
    intro _ _ _ _ _ _ _ _ _ _ _ _ _ _ _ _ _ _ _ _ _ _ _ _ zz _ _ n _ _ ⟨c, _, i, hq, hi, hcT, hs⟩
    simp only [List.cons_append, List.nil_append, List.cons.injEq, D.int.injEq, D.str.injEq, D.bool.injEq, D.lst.injEq, true_and, and_true] at hq
    obtain ⟨rfl, rfl, rfl, rfl, rfl, rfl, rfl, rfl, rfl, rfl, rfl, rfl⟩ := hq
    (try simp only [List.cons_append, List.nil_append])
    refine den_ite (fun k => ?_) (fun k => ?_)
    · simp only [E.den, D.toI, D.toB, D.toL, D.toS, D.len, D.mapL, flatD, dE] at k
      have hi' : i < l.length := by omega
      have hg := getD_map (g := fD) (0, []) hi'
      have hm := hx _ (mem_getD (0, []) hi')
      have hw : IntKind.wrap .i64 ((i : Int) + 1) = ((i + 1 : Nat) : Int) := by rw [wrap_i64 (by omega) (by omega)]; omega
      rw [drop_get (0, []) hi', decF] at hs
      obtain ⟨c', hf, hc'⟩ := takefield_gen c (l.getD i (0, [])) hm.1 (by omega)
      refine den_ev (evs_ob (by simp only [E.den, D.toI, D.toB, D.toL, D.toS, D.len, D.mapL, flatD, dE]; omega) (evs_ob (by simp only [E.den, D.toI, D.toB, D.toL, D.toS, D.len, D.mapL, flatD, dE]; omega) (evs_nil ?_)))
      refine den_cal (.bool (tfO c (l.getD i (0, []))).isSome :: evL c') rfl hf (by simp only [E.den, D.toI, D.toB, D.toL, D.toS, D.len, D.mapL, flatD, dE, hg]) rfl ?_
      (try simp only [List.cons_append, List.nil_append])
      cases ho : tfO c (l.getD i (0, [])) with
      | none =>
        rw [ho] at hs
        refine den_f rfl (den_ret ?_)
        rw [hS, hs]
        rfl
      | some e =>
        rw [ho] at hs
        have := hc' e ho
        subst this
        refine den_t rfl ?_
        exact den_back rfl ⟨c', zz, i + 1, (by simp only [E.den, D.toI, D.toB, D.toL, D.toS, D.len, D.mapL, flatD, dE]; rw [hw]), by omega, tfO_T hcT hm.1 (by omega) ho, hs⟩ (by simp only []; simp only [E.den, D.toI, D.toB, D.toL, D.toS, D.len, D.mapL, flatD, dE]; rw [hw]; omega)
    · simp only [E.den, D.toI, D.toB, D.toL, D.toS, D.len, D.mapL, flatD, dE] at k
      have : i = l.length := by omega
      subst this
      rw [List.drop_length, decF] at hs
      refine den_cal [I64d (validS c)] rfl (E30.valid_fn c hcT) rfl rfl ?_
      (try simp only [List.cons_append, List.nil_append])
      rw [hS, hs]
      refine den_ite (fun h => den_ret ?_) (fun h => den_ret ?_)
      · simp only [E.den, D.toI, D.toB, D.toL, D.toS, D.len, D.mapL, flatD, dE] at h
        simp only [E.den, D.toI, D.toB, D.toL, D.toS, D.len, D.mapL, flatD, dE]
        rw [if_neg h]
        rfl
      · simp only [E.den, D.toI, D.toB, D.toL, D.toS, D.len, D.mapL, flatD, dE] at h
        simp only [E.den, D.toI, D.toB, D.toL, D.toS, D.len, D.mapL, flatD, dE]
        rw [if_pos h]
/-! the reference -/
theorem getS_mem (l : List Fld) (q : Int) : (getS l q).1 = [] ∨ ∃ x ∈ l, (getS l q).1 = x.2 := by
  unfold getS
  split
  · rename_i x hx
    exact .inr ⟨x, List.mem_of_find?_eq_some hx, rfl⟩
  · exact .inl rfl
def Sml (l : List Fld) : Prop := l.length ≤ 256 ∧ ∀ x ∈ l, isB x.2 ∧ x.2.length ≤ 1000
theorem getS_sml {l : List Fld} (h : Sml l) (q : Int) : isB (getS l q).1 ∧ (getS l q).1.length ≤ 1000 := by
  rcases getS_mem l q with h1 | ⟨x, hx, h1⟩
  · rw [h1]; exact ⟨isB.nil, by simp⟩
  · rw [h1]; exact h.2 x hx
theorem get_sml {l : List Fld} (h : Sml l) (q : Int) : Fun Try.prog [] 90 [tF, tI] [fsD l, I64d q] [tY, tB] (.ok [bD (getS l q).1, .bool (getS l q).2]) := rget_fn l q (by have := h.1; omega) (fun x hx => by have := (h.2 x hx).2; omega)
theorem taketext_fn (l : List Fld) (q : Int) (h : Sml l) : Fun Try.prog [] 75 [tF, tI] [fsD l, I64d q] [tZ] (.ok [.str (bytesS (getS l q).1)]) := by
  refine taketext_ent _ _ ?_
  show vctaketext.den _ _ _ _ _
  unfold vctaketext
  refine den_cal [bD (getS l q).1, .bool (getS l q).2] rfl (get_sml h q) rfl rfl (den_ret rfl)
def numL (l : List Fld) (q : Int) : Int := if (getS l q).2 = true ∧ (takeIntS (getS l q).1).2 = 0 then (takeIntS (getS l q).1).1 else 0
theorem takenum_fn (l : List Fld) (q : Int) (h : Sml l) : Fun Try.prog [] 76 [tF, tI] [fsD l, I64d q] [tI] (.ok [I64d (numL l q)]) := by
  refine takenum_ent _ _ ?_
  show vctakenum.den _ _ _ _ _
  unfold vctakenum
  have hs := getS_sml h q
  refine den_cal [bD (getS l q).1, .bool (getS l q).2] rfl (get_sml h q) rfl rfl ?_
  refine den_cal (tiR (getS l q).1) rfl (rtakeint_fn (getS l q).1 hs.1 (by omega)) rfl rfl ?_
  unfold tiR
  (try simp only [List.cons_append, List.nil_append])
  refine den_ite (fun k => ?_) (fun k => den_ret ?_)
  · simp only [E.den, D.toI, D.toB, D.toL, D.toS, D.len, D.mapL, flatD, dE] at k
    refine den_ite (fun k2 => den_ret ?_) (fun k2 => den_ret ?_)
    · simp only [E.den, D.toI, D.toB, D.toL, D.toS, D.len, D.mapL, flatD, dE] at k2
      simp only [E.den, D.toI, D.toB, D.toL, D.toS, D.len, D.mapL, flatD, dE]
      unfold numL
      rw [if_neg (fun c => k2 c.2)]
    · simp only [E.den, D.toI, D.toB, D.toL, D.toS, D.len, D.mapL, flatD, dE] at k2
      simp only [E.den, D.toI, D.toB, D.toL, D.toS, D.len, D.mapL, flatD, dE]
      unfold numL
      rw [if_pos ⟨k, k2⟩]
  · simp only [E.den, D.toI, D.toB, D.toL, D.toS, D.len, D.mapL, flatD, dE] at k
    simp only [E.den, D.toI, D.toB, D.toL, D.toS, D.len, D.mapL, flatD, dE]
    unfold numL
    rw [if_neg (fun c => by rw [c.1] at k; cases k)]
def partsL (d : List Int) : List (List Int) := match takeListS d with | .ok p => p | .error _ => []
def intsL (l : List Fld) (q : Int) : List Int := if (getS l q).2 = true then (partsL (getS l q).1).filterMap tiO else []
theorem takeints_fn (l : List Fld) (q : Int) (h : Sml l) : Fun Try.prog [] 91 [tF, tI] [fsD l, I64d q] [tL] (.ok [isD (intsL l q)]) := by
  refine takeints_ent _ _ ?_
  show vctakeints.den _ _ _ _ _
  unfold vctakeints
  have hs := getS_sml h q
  refine den_cal [bD (getS l q).1, .bool (getS l q).2] rfl (get_sml h q) rfl rfl ?_
  (try simp only [List.cons_append, List.nil_append])
  refine den_ite (fun k => ?_) (fun k => den_ret ?_)
  rotate_left
  · simp only [E.den, D.toI, D.toB, D.toL, D.toS, D.len, D.mapL, flatD, dE] at k
    simp only [E.den, D.toI, D.toB, D.toL, D.toS, D.len, D.mapL, flatD, dE]
    unfold intsL
    rw [if_neg (fun c => by rw [c] at k; cases k)]
    rfl
  simp only [E.den, D.toI, D.toB, D.toL, D.toS, D.len, D.mapL, flatD, dE] at k
  have hI : intsL l q = (partsL (getS l q).1).filterMap tiO := by unfold intsL; rw [if_pos k]
  have ht := rtakel_fn (getS l q).1 hs.1 (by omega)
  have hP : (partsL (getS l q).1).length ≤ 256 ∧ ∀ d ∈ partsL (getS l q).1, isB d ∧ d.length ≤ 1000 := by
    unfold partsL
    cases hT : takeListS (getS l q).1 with
    | error e => exact ⟨by simp, fun d hd => by cases hd⟩
    | ok p =>
      obtain ⟨_, h2, h3⟩ := put_takeList hs.1 hT
      exact ⟨h2, fun d hd => ⟨(h3 d hd).1, by have := (h3 d hd).2; omega⟩⟩
  obtain ⟨e0, hR⟩ : ∃ e0 : Int, takeLR (takeListS (getS l q).1) = [bbD (partsL (getS l q).1), I64d e0] := by
    unfold partsL
    cases takeListS (getS l q).1 with
    | error e => exact ⟨e, rfl⟩
    | ok p => exact ⟨0, rfl⟩
  rw [hR] at ht
  rw [hI]
  generalize partsL (getS l q).1 = p at *
  refine den_cal [bbD p, I64d e0] rfl ht rfl rfl ?_
  have hfl : ∀ i, ((p.take i).filterMap tiO).length ≤ i := fun i => by
    have h1 := List.length_filterMap_le tiO (p.take i)
    rw [List.length_take] at h1
    omega
  refine den_loop (fun xs => ∃ i : Nat, xs = [isD ((p.take i).filterMap tiO), I64d i] ∧ i ≤ p.length) (fun xs => p.length - (xs.getD 1 default).toI.toNat) ⟨0, rfl, by omega⟩ ?_
  simp only [AllSh]
  intro _ _ n _ _ ⟨i, hq, hi⟩
  simp only [List.cons.injEq, D.int.injEq, D.lst.injEq, true_and, and_true] at hq
  obtain ⟨rfl, rfl⟩ := hq
  (try simp only [List.cons_append, List.nil_append])
  refine den_ite (fun k1 => ?_) (fun k1 => den_ret ?_)
  · simp only [E.den, D.toI, D.toB, D.toL, D.toS, D.len, D.mapL, flatD, dE] at k1
    have hi' : i < p.length := by omega
    have hg := getD_map (g := bD) [] hi'
    have hm := hP.2 _ (mem_getD [] hi')
    have hw : IntKind.wrap .i64 ((i : Int) + 1) = ((i + 1 : Nat) : Int) := by rw [wrap_i64 (by omega) (by omega)]; omega
    have hfi := hfl i
    refine den_ev (evs_ob (by simp only [E.den, D.toI, D.toB, D.toL, D.toS, D.len, D.mapL, flatD, dE]; omega) (evs_ob (by simp only [E.den, D.toI, D.toB, D.toL, D.toS, D.len, D.mapL, flatD, dE]; omega) (evs_nil ?_)))
    refine den_cal (tiR (p.getD i [])) rfl (rtakeint_fn (p.getD i []) hm.1 (by omega)) (by simp only [E.den, D.toI, D.toB, D.toL, D.toS, D.len, D.mapL, flatD, dE, hg]) rfl ?_
    unfold tiR
    (try simp only [List.cons_append, List.nil_append])
    refine den_ite (fun k2 => ?_) (fun k2 => ?_)
    · simp only [E.den, D.toI, D.toB, D.toL, D.toS, D.len, D.mapL, flatD, dE] at k2
      have e1 : tiO (p.getD i []) = some (takeIntS (p.getD i [])).1 := by unfold tiO; rw [if_pos k2]
      refine den_ev (evs_ob (by simp only [E.den, D.toI, D.toB, D.toL, D.toS, D.len, D.mapL, flatD, dE]; omega) (evs_nil ?_))
      refine den_back rfl ⟨i + 1, ?_, by omega⟩ (by simp only []; simp only [E.den, D.toI, D.toB, D.toL, D.toS, D.len, D.mapL, flatD, dE]; rw [hw]; omega)
      simp only [E.den, D.toI, D.toB, D.toL, D.toS, D.len, D.mapL, flatD, dE]
      rw [hw, take_get [] hi', List.filterMap_append]
      simp only [List.filterMap_cons, List.filterMap_nil, e1]
      simp
    · simp only [E.den, D.toI, D.toB, D.toL, D.toS, D.len, D.mapL, flatD, dE] at k2
      have e1 : tiO (p.getD i []) = none := by unfold tiO; rw [if_neg k2]
      refine den_back rfl ⟨i + 1, ?_, by omega⟩ (by simp only []; simp only [E.den, D.toI, D.toB, D.toL, D.toS, D.len, D.mapL, flatD, dE]; rw [hw]; omega)
      simp only [E.den, D.toI, D.toB, D.toL, D.toS, D.len, D.mapL, flatD, dE]
      rw [hw, take_get [] hi', List.filterMap_append]
      simp only [List.filterMap_cons, List.filterMap_nil, e1]
      simp
  · simp only [E.den, D.toI, D.toB, D.toL, D.toS, D.len, D.mapL, flatD, dE] at k1
    have : i = p.length := by omega
    subst this
    simp only [E.den, D.toI, D.toB, D.toL, D.toS, D.len, D.mapL, flatD, dE]
    rw [List.take_length]
def rdPairs : List Int → List (Int × Int)
  | a :: b :: l => (a, b) :: rdPairs l
  | _ => []
theorem rdPairs_short {l : List Int} (h : l.length < 2) : rdPairs l = [] := by
  cases l with
  | nil => rfl
  | cons a l => cases l with
    | nil => rfl
    | cons b l => simp only [List.length_cons] at h; omega
theorem ints_len {l : List Fld} (h : Sml l) (q : Int) : (intsL l q).length ≤ 256 ∧ ∀ n ∈ intsL l q, inI n := by
  have hs := getS_sml h q
  unfold intsL
  split
  · have hP : (partsL (getS l q).1).length ≤ 256 ∧ ∀ d ∈ partsL (getS l q).1, isB d := by
      unfold partsL
      cases hT : takeListS (getS l q).1 with
      | error e => exact ⟨by simp, fun d hd => by cases hd⟩
      | ok p =>
        obtain ⟨_, h2, h3⟩ := put_takeList hs.1 hT
        exact ⟨h2, fun d hd => (h3 d hd).1⟩
    refine ⟨?_, fun n hn => ?_⟩
    · have h1 := List.length_filterMap_le tiO (partsL (getS l q).1)
      omega
    · obtain ⟨d, hd, hn⟩ := List.mem_filterMap.1 hn
      exact (tiO_some (hP.2 d hd) hn).2
  · exact ⟨by simp, fun n hn => by cases hn⟩
theorem rtakerd_fn (l : List Fld) (q : Int) (h : Sml l) : Fun Try.prog [] 77 [tF, tI] [fsD l, I64d q] [tR] (.ok [rdD (rdPairs (intsL l q))]) := by
  refine rtakerd_ent _ _ ?_
  show vcrtakerd.den _ _ _ _ _
  unfold vcrtakerd
  have hl := (ints_len h q).1
  refine den_cal [isD (intsL l q)] rfl (takeints_fn l q h) rfl rfl ?_
  generalize intsL l q = p at *
  refine den_loop (fun xs => ∃ (acc : List (Int × Int)) (j : Nat), xs = [rdD acc, I64d (2 * j : Nat)] ∧ 2 * j ≤ p.length ∧ acc.length = j ∧ rdPairs p = acc ++ rdPairs (p.drop (2 * j))) (fun xs => p.length - (xs.getD 1 default).toI.toNat) ⟨[], 0, rfl, by omega, rfl, rfl⟩ ?_
  simp only [AllSh]
  intro _ _ n _ _ ⟨acc, j, hq, hj, hal, hp⟩
  simp only [List.cons.injEq, D.int.injEq, D.lst.injEq, true_and, and_true] at hq
  obtain ⟨rfl, rfl⟩ := hq
  (try simp only [List.cons_append, List.nil_append])
  have hw1 : IntKind.wrap .i64 (((2 * j : Nat) : Int) + 1) = ((2 * j + 1 : Nat) : Int) := by rw [wrap_i64 (by omega) (by omega)]; omega
  have hw2 : IntKind.wrap .i64 (((2 * j : Nat) : Int) + 2) = ((2 * (j + 1) : Nat) : Int) := by rw [wrap_i64 (by omega) (by omega)]; omega
  refine den_ite (fun k1 => ?_) (fun k1 => den_ret ?_)
  · simp only [E.den, D.toI, D.toB, D.toL, D.toS, D.len, D.mapL, flatD, dE, hw1] at k1
    have hj1 : 2 * j < p.length := by omega
    have hj2 : 2 * j + 1 < p.length := by omega
    have g1 := getD_map (g := I64d) (l := p) (i := 2 * j) 0 hj1
    have g2 := getD_map (g := I64d) (l := p) (i := 2 * j + 1) 0 hj2
    rw [drop_get 0 hj1, drop_get 0 hj2, rdPairs] at hp
    refine den_ev (evs_ob (by simp only [E.den, D.toI, D.toB, D.toL, D.toS, D.len, D.mapL, flatD, dE]; omega) (evs_ob (by simp only [E.den, D.toI, D.toB, D.toL, D.toS, D.len, D.mapL, flatD, dE]; omega) (evs_ob (by simp only [E.den, D.toI, D.toB, D.toL, D.toS, D.len, D.mapL, flatD, dE, hw1]; omega) (evs_ob (by simp only [E.den, D.toI, D.toB, D.toL, D.toS, D.len, D.mapL, flatD, dE, hw1]; omega) (evs_ob (by simp only [E.den, D.toI, D.toB, D.toL, D.toS, D.len, D.mapL, flatD, dE]; omega) (evs_nil ?_))))))
    refine den_back rfl ⟨acc ++ [(p.getD (2 * j) 0, p.getD (2 * j + 1) 0)], j + 1, ?_, by omega, by rw [List.length_append, hal]; rfl, ?_⟩ (by simp only []; simp only [E.den, D.toI, D.toB, D.toL, D.toS, D.len, D.mapL, flatD, dE]; rw [hw2]; omega)
    · simp only [E.den, D.toI, D.toB, D.toL, D.toS, D.len, D.mapL, flatD, dE, hw1, g1, g2]
      rw [hw2]
      simp
    · rw [hp, show 2 * (j + 1) = 2 * j + 1 + 1 by omega]
      simp
  · simp only [E.den, D.toI, D.toB, D.toL, D.toS, D.len, D.mapL, flatD, dE, hw1] at k1
    rw [rdPairs_short (l := p.drop (2 * j)) (by rw [List.length_drop]; omega), List.append_nil] at hp
    simp only [E.den, D.toI, D.toB, D.toL, D.toS, D.len, D.mapL, flatD, dE]
    rw [hp]
theorem same8_fn (a b : List Int) (ha : isB a) (hb : isB b) : Fun Try.prog [] 78 [tY, tY] [bD a, bD b] [tB] (.ok [.bool (decide (a = b))]) := by
  refine same8_ent _ _ ?_
  show vcsame8.den _ _ _ _ _
  unfold vcsame8
  refine den_ret ?_
  simp only [E.den, D.toI, D.toB, D.toL, D.toS, D.len, D.mapL, flatD, dE]
  rw [strD_eq ha hb]
end Go.Proofs.Ytmkkijgnlohieaa.O31d
set_option maxRecDepth 100000
set_option linter.unusedSimpArgs false
set_option linter.unusedVariables false
namespace Go.Proofs.Ytmkkijgnlohieaa.O31d
open Go.Proofs.Ytmkkijgnlohieaa Go.Proofs.Ytmkkijgnlohieaa.Sy Go.Proofs.Ytmkkijgnlohieaa.L7 Go.Proofs.Ytmkkijgnlohieaa.Id Go.Proofs.Ytmkkijgnlohieaa.R26 Go.Proofs.Ytmkkijgnlohieaa.E30 Go.Proofs.Ytmkkijgnlohieaa.D30 Go.Proofs.Ytmkkijgnlohieaa.O31 Go.RowKit Go.WideShapes Go.ChangeShapes Go.ChangeAt

def Okw (e : Evt) : Prop := e.st.size ≤ 1000 ∧ e.tx.size ≤ 1000 ∧ e.tk.size ≤ 1000 ∧ e.rd.length ≤ 128
theorem fldE_dataG {e : Evt} (h : Okw e) : ∀ x ∈ fldE e, x.2.length ≤ 1000000 := by
  obtain ⟨hst, htx, htk, hrl⟩ := h
  have hl := rdP_len e.rd
  intro x hx
  unfold fldE at hx
  simp only [List.mem_append] at hx
  rcases hx with ((((((((hx | hx) | hx) | hx) | hx) | hx) | hx) | hx) | hx) | hx
  · have := txtF_data hst x hx; omega
  · have := txtF_data htx x hx; omega
  · have := numF_data _ _ x hx; omega
  · have := numF_data _ _ x hx; omega
  · have := numF_data _ _ x hx; omega
  · have := numF_data _ _ x hx; omega
  · have := txtF_data htk x hx; omega
  · have := flagF_data _ _ x hx; omega
  · have := numF_data _ _ x hx; omega
  · have := listF_data (rdP_small e.rd) x hx; omega
theorem fldE_isBG {e : Evt} (he : EvT e) (h : Okw e) : ∀ x ∈ fldE e, isB x.2 := by
  obtain ⟨_, _, _, hrl⟩ := h
  intro x hx
  unfold fldE at hx
  simp only [List.mem_append] at hx
  rcases hx with ((((((((hx | hx) | hx) | hx) | hx) | hx) | hx) | hx) | hx) | hx
  · exact txtF_isB _ _ x hx
  · exact txtF_isB _ _ x hx
  · exact numF_isB he.co x hx
  · exact numF_isB he.sq x hx
  · exact numF_isB he.ki x hx
  · exact numF_isB he.at' x hx
  · exact txtF_isB _ _ x hx
  · exact flagF_isB _ _ x hx
  · exact numF_isB he.re x hx
  · exact listF_isB (rdP_isB he.rd) (fun y hy => by have := rdP_small e.rd y hy; omega) (by rw [rdP_len]; omega) x hx
theorem byE_isBG {e : Evt} (he : EvT e) (h : Okw e) : isB (byE e) := (putF_isB (fldE_isBG he h) (fldE_dataG h) (byE_put e)).1
theorem take_byEG {e : Evt} (h : Okw e) : takeF (byE e) = .ok (fldE e) := by
  have hl := fldE_len e
  have hp := byE_put e
  rw [putF_in (by omega)] at hp
  exact take_put (fldE e) (byE e).length 0 0 (byE e) (fun x hx => by have := fldE_dataG h x hx; omega) hp (Nat.le_refl _) (by omega)
set_option maxHeartbeats 1000000 in
theorem rfields_gen (e : Evt) (he : EvT e) (h : Okw e) : Fun Try.prog [] 64 [tE] [evD e] [tY] (.ok [bD (byE e)]) := by
  refine rfields_ent _ _ ?_
  show vcrfields.den _ _ _ _ _
  unfold vcrfields
  have hb := byE_put e
  have hL := rdP_len e.rd
  have hrl := h.2.2.2
  have a1 := txtF_len 1 e.st
  have a2 := txtF_len 2 e.tx
  have a3 := numF_len 3 e.co
  have a4 := numF_len 4 e.sq
  have a5 := numF_len 5 e.ki
  have a6 := numF_len 6 e.at'
  have a7 := txtF_len 7 e.tk
  have a8 := flagF_len 8 e.off
  have a9 := numF_len 9 e.re
  obtain ⟨l0, hl0⟩ : ∃ l, l = ([] : List Fld) := ⟨_, rfl⟩
  have bl0 : l0.length ≤ 0 := by rw [hl0]; simp only [List.length_append, List.length_nil]; omega
  refine den_ev ?_
  obtain ⟨l1, hl1⟩ : ∃ l, l = l0 ++ txtF 1 e.st := ⟨_, rfl⟩
  have bl1 : l1.length ≤ 1 := by rw [hl1]; simp only [List.length_append, List.length_nil]; omega
  refine evs_call [fsD l1] rfl (fun_as (text_fn l0 1 e.st (by omega)) (by rw [hl1] <;> rfl)) (by rw [hl0]; rfl) rfl ?_
  obtain ⟨l2, hl2⟩ : ∃ l, l = l1 ++ txtF 2 e.tx := ⟨_, rfl⟩
  have bl2 : l2.length ≤ 2 := by rw [hl2]; simp only [List.length_append, List.length_nil]; omega
  refine evs_call [fsD l2] rfl (fun_as (text_fn l1 2 e.tx (by omega)) (by rw [hl2] <;> rfl)) rfl rfl ?_
  refine evs_nil ?_
  (try simp only [List.cons_append, List.nil_append])
  refine den_ev ?_
  obtain ⟨l3, hl3⟩ : ∃ l, l = l2 ++ numF 3 e.co := ⟨_, rfl⟩
  have bl3 : l3.length ≤ 3 := by rw [hl3]; simp only [List.length_append, List.length_nil]; omega
  refine evs_call [fsD l3] rfl (fun_as (num_fn l2 3 e.co he.co (by omega)) (by rw [hl3] <;> rfl)) rfl rfl ?_
  obtain ⟨l4, hl4⟩ : ∃ l, l = l3 ++ numF 4 e.sq := ⟨_, rfl⟩
  have bl4 : l4.length ≤ 4 := by rw [hl4]; simp only [List.length_append, List.length_nil]; omega
  refine evs_call [fsD l4] rfl (fun_as (num_fn l3 4 e.sq he.sq (by omega)) (by rw [hl4] <;> rfl)) rfl rfl ?_
  obtain ⟨l5, hl5⟩ : ∃ l, l = l4 ++ numF 5 e.ki := ⟨_, rfl⟩
  have bl5 : l5.length ≤ 5 := by rw [hl5]; simp only [List.length_append, List.length_nil]; omega
  refine evs_call [fsD l5] rfl (fun_as (num_fn l4 5 e.ki he.ki (by omega)) (by rw [hl5] <;> rfl)) rfl rfl ?_
  obtain ⟨l6, hl6⟩ : ∃ l, l = l5 ++ numF 6 e.at' := ⟨_, rfl⟩
  have bl6 : l6.length ≤ 6 := by rw [hl6]; simp only [List.length_append, List.length_nil]; omega
  refine evs_call [fsD l6] rfl (fun_as (num_fn l5 6 e.at' he.at' (by omega)) (by rw [hl6] <;> rfl)) rfl rfl ?_
  refine evs_nil ?_
  (try simp only [List.cons_append, List.nil_append])
  refine den_ev ?_
  obtain ⟨l7, hl7⟩ : ∃ l, l = l6 ++ txtF 7 e.tk := ⟨_, rfl⟩
  have bl7 : l7.length ≤ 7 := by rw [hl7]; simp only [List.length_append, List.length_nil]; omega
  refine evs_call [fsD l7] rfl (fun_as (text_fn l6 7 e.tk (by omega)) (by rw [hl7] <;> rfl)) rfl rfl ?_
  obtain ⟨l8, hl8⟩ : ∃ l, l = l7 ++ flagF 8 e.off := ⟨_, rfl⟩
  have bl8 : l8.length ≤ 8 := by rw [hl8]; simp only [List.length_append, List.length_nil]; omega
  refine evs_call [fsD l8] rfl (fun_as (flag_fn l7 8 e.off (by omega)) (by rw [hl8] <;> rfl)) rfl rfl ?_
  obtain ⟨l9, hl9⟩ : ∃ l, l = l8 ++ numF 9 e.re := ⟨_, rfl⟩
  have bl9 : l9.length ≤ 9 := by rw [hl9]; simp only [List.length_append, List.length_nil]; omega
  refine evs_call [fsD l9] rfl (fun_as (num_fn l8 9 e.re he.re (by omega)) (by rw [hl9] <;> rfl)) rfl rfl ?_
  refine evs_nil ?_
  (try simp only [List.cons_append, List.nil_append])
  refine den_cal [isD (e.rd.flatMap pairL)] rfl (readings_fn e.rd (by omega)) rfl rfl ?_
  refine den_cal [bbD (rdP e.rd)] rfl (ints_fn (e.rd.flatMap pairL) (fun n hn => ?_) (by rw [pairs_len]; omega)) rfl rfl ?_
  · obtain ⟨x, hx, hn⟩ := List.mem_flatMap.1 hn
    have := he.rd x hx
    simp only [pairL, List.mem_cons, List.not_mem_nil, or_false] at hn
    rcases hn with rfl | rfl
    · exact this.1
    · exact this.2
  refine den_cal [fsD (l9 ++ listF 10 (rdP e.rd))] rfl (listf_fn l9 10 (rdP e.rd) (by omega) (by omega) (fun x hx => by have := rdP_small e.rd x hx; omega)) rfl rfl ?_
  have hfe : l9 ++ listF 10 (rdP e.rd) = fldE e := by
    unfold fldE
    simp only [hl9, hl8, hl7, hl6, hl5, hl4, hl3, hl2, hl1, hl0, List.nil_append]
  have hpf := rput_fn (l9 ++ listF 10 (rdP e.rd)) (by rw [hfe]; have := fldE_len e; omega) (by rw [hfe]; exact fldE_dataG h)
  rw [hfe, hb] at hpf
  refine den_cal [bD (byE e), I64d 0] rfl hpf (by rw [← hfe]; rfl) rfl ?_
  exact den_ret rfl

def lookE (l : List Fld) : Evt := ⟨bytesS (getS l 1).1, bytesS (getS l 2).1, numL l 3, numL l 4, numL l 5, numL l 6, bytesS (getS l 7).1, numL l 8 == 1, numL l 9, rdPairs (intsL l 10)⟩
theorem numL_T {l : List Fld} (h : Sml l) (q : Int) : inI (numL l q) := by
  unfold numL
  split
  · rename_i hc
    exact (tiO_some (getS_sml h q).1 (show tiO (getS l q).1 = some _ by unfold tiO; rw [if_pos hc.2])).2
  · unfold inI; decide
theorem rdPairs_facts : ∀ (l : List Int), 2 * (rdPairs l).length ≤ l.length ∧ ∀ x ∈ rdPairs l, x.1 ∈ l ∧ x.2 ∈ l
  | [] => ⟨by simp [rdPairs], fun x hx => by cases hx⟩
  | [a] => ⟨by simp [rdPairs], fun x hx => by cases hx⟩
  | a :: b :: l => by
    obtain ⟨h1, h2⟩ := rdPairs_facts l
    refine ⟨by simp only [rdPairs, List.length_cons]; omega, fun x hx => ?_⟩
    rcases List.mem_cons.1 hx with rfl | hx
    · simp
    · have := h2 x hx; simp [this.1, this.2]
theorem look_T {l : List Fld} (h : Sml l) : EvT (lookE l) ∧ Okw (lookE l) := by
  have hz : ∀ q, (bytesS (getS l q).1).size ≤ 1000 := fun q => by rw [bytesS_size]; exact (getS_sml h q).2
  have hm : (1000 : Nat) ≤ maxLen := by decide
  have h1 := hz 1
  have h2 := hz 2
  have h7 := hz 7
  obtain ⟨i1, i2⟩ := ints_len h 10
  obtain ⟨r1, r2⟩ := rdPairs_facts (intsL l 10)
  exact ⟨⟨by simp only [lookE]; omega, by simp only [lookE]; omega, by simp only [lookE]; omega, by simp only [lookE]; omega, numL_T h 3, numL_T h 4, numL_T h 5, numL_T h 6, numL_T h 9, fun x hx => ⟨i2 _ (r2 x hx).1, i2 _ (r2 x hx).2⟩⟩,
    h1, h2, h7, by simp only [lookE]; omega⟩
def refS (b : List Int) : Evt × Int := match takeF b with
  | .error e => (ev0, e)
  | .ok l => if byE (lookE l) = b then (if validS (lookE l) = 0 then (lookE l, 0) else (ev0, validS (lookE l))) else (ev0, 5)
theorem take_sml {b : List Int} {l : List Fld} (hb : isB b) (hl : b.length ≤ 1000) (hT : takeF b = .ok l) : Sml l ∧ putG 0 l = .ok b := by
  obtain ⟨h1, hlen, hx⟩ := put_take b.length 0 0 b l hb (by omega) (by omega) hT
  refine ⟨⟨?_, fun x hx' => ⟨(hx x hx').1, by have := (hx x hx').2; omega⟩⟩, h1⟩
  by_cases h0 : l = []
  · rw [h0]; simp
  · have := hlen h0; omega
set_option maxHeartbeats 2000000 in
theorem rdecode_fn (b : List Int) (hb : isB b) (hl : b.length ≤ 1000) : Fun Try.prog [] 51 [tY] [bD b] [tE, tI] (.ok [evD (refS b).1, I64d (refS b).2]) := by
  refine rdecode_ent _ _ ?_
  show vcrdecode.den _ _ _ _ _
  unfold vcrdecode
  have ht := rtake_fn b hb (by omega)
  cases hT : takeF b with
  | error e =>
    rw [hT] at ht
    have he := tfS_err hT
    refine den_cal [.lst [], I64d e] rfl ht rfl rfl ?_
    (try simp only [List.cons_append, List.nil_append])
    refine den_t (by simp only [E.den, D.toI, D.toB, D.toL, D.toS, D.len, D.mapL, flatD, dE]; exact he) (den_ret ?_)
    have : refS b = (ev0, e) := by unfold refS; rw [hT]
    rw [this]
    rfl
  | ok l =>
    rw [hT] at ht
    obtain ⟨hS, _⟩ := take_sml hb hl hT
    obtain ⟨lT, lW⟩ := look_T hS
    have hR : refS b = if byE (lookE l) = b then (if validS (lookE l) = 0 then (lookE l, 0) else (ev0, validS (lookE l))) else (ev0, 5) := by unfold refS; rw [hT]
    have hlk : lookE l = ⟨bytesS (getS l 1).1, bytesS (getS l 2).1, numL l 3, numL l 4, numL l 5, numL l 6, bytesS (getS l 7).1, numL l 8 == 1, numL l 9, rdPairs (intsL l 10)⟩ := rfl
    have T1 := taketext_fn l 1 hS
    have T2 := taketext_fn l 2 hS
    have T3 := takenum_fn l 3 hS
    have T4 := takenum_fn l 4 hS
    have T5 := takenum_fn l 5 hS
    have T6 := takenum_fn l 6 hS
    have T7 := taketext_fn l 7 hS
    have T8 := takenum_fn l 8 hS
    have T9 := takenum_fn l 9 hS
    have T10 := rtakerd_fn l 10 hS
    rw [hlk] at lT lW hR
    clear hlk
    generalize bytesS (getS l 1).1 = s1 at *
    generalize bytesS (getS l 2).1 = s2 at *
    generalize numL l 3 = n3 at *
    generalize numL l 4 = n4 at *
    generalize numL l 5 = n5 at *
    generalize numL l 6 = n6 at *
    generalize bytesS (getS l 7).1 = s7 at *
    generalize numL l 8 = n8 at *
    generalize numL l 9 = n9 at *
    generalize rdPairs (intsL l 10) = r10 at *
    have F1 := rfields_gen _ lT lW
    have F2 := same8_fn _ b (byE_isBG lT lW) hb
    have F3 := E30.rvalid_fn _ lT
    generalize hee : (⟨s1, s2, n3, n4, n5, n6, s7, n8 == 1, n9, r10⟩ : Evt) = e at *
    have hev : evD e = .rc [.str s1, .str s2, I64d n3, I64d n4, I64d n5, I64d n6, .str s7, .bool (n8 == 1), I64d n9, rdD r10] := by rw [← hee]
    refine den_cal [fsD l, I64d 0] rfl ht rfl rfl ?_
    (try simp only [List.cons_append, List.nil_append])
    refine den_f rfl ?_
    refine den_cal [.str s1] rfl T1 rfl rfl ?_
    refine den_cal [.str s2] rfl T2 rfl rfl ?_
    refine den_cal [I64d n3] rfl T3 rfl rfl ?_
    refine den_cal [I64d n4] rfl T4 rfl rfl ?_
    refine den_cal [I64d n5] rfl T5 rfl rfl ?_
    refine den_cal [I64d n6] rfl T6 rfl rfl ?_
    refine den_cal [.str s7] rfl T7 rfl rfl ?_
    refine den_cal [I64d n8] rfl T8 rfl rfl ?_
    refine den_cal [I64d n9] rfl T9 rfl rfl ?_
    refine den_cal [rdD r10] rfl T10 rfl rfl ?_
    (try simp only [List.cons_append, List.nil_append])
    refine den_cal [bD (byE e)] rfl F1 (by rw [hev]; rfl) rfl ?_
    refine den_cal [.bool (decide (byE e = b))] rfl F2 rfl rfl ?_
    (try simp only [List.cons_append, List.nil_append])
    refine den_ite (fun k => ?_) (fun k => den_ret ?_)
    · simp only [E.den, D.toI, D.toB, D.toL, D.toS, D.len, D.mapL, flatD, dE] at k
      rw [if_pos k] at hR
      refine den_cal [I64d (validS e)] rfl F3 (by rw [hev]; rfl) rfl ?_
      (try simp only [List.cons_append, List.nil_append])
      refine den_ite (fun k2 => den_ret ?_) (fun k2 => den_ret ?_)
      · simp only [E.den, D.toI, D.toB, D.toL, D.toS, D.len, D.mapL, flatD, dE] at k2
        rw [if_neg k2] at hR
        rw [hR]
        rfl
      · simp only [E.den, D.toI, D.toB, D.toL, D.toS, D.len, D.mapL, flatD, dE] at k2
        rw [if_pos k2] at hR
        rw [hR, hev]
        rfl
    · simp only [E.den, D.toI, D.toB, D.toL, D.toS, D.len, D.mapL, flatD, dE] at k
      rw [if_neg k] at hR
      rw [hR]
      rfl
/-! both are one -/
theorem decF_app : ∀ (p r : List Fld) (c : Evt), decF c (p ++ r) = match decF c p with | some c' => decF c' r | none => none
  | [], r, c => rfl
  | x :: p, r, c => by
    simp only [List.cons_append, decF]
    cases tfO c x with
    | none => rfl
    | some c' => exact decF_app p r c'
theorem decF_one (c : Evt) (x : Fld) : decF c [x] = tfO c x := by
  simp only [decF]
  cases tfO c x <;> rfl
theorem put_asc : ∀ (l : List Fld) (b : Int) (r : List Int), putG b l = .ok r → Asc b l
  | [], b, r, _ => trivial
  | (t, d) :: l, b, r, h => by
    simp only [putG] at h
    split at h
    · cases h
    · split at h
      · cases h
      · cases hp : putG t l with
        | error e2 => rw [hp] at h; cases h
        | ok r2 => exact ⟨by simp only; omega, by simp only; omega, put_asc l t r2 hp⟩
theorem peel {t : Int} {l : List Fld} (h : Asc (t - 1) l) : ∃ p r, l = p ++ r ∧ OneF t p ∧ Asc t r := by
  cases l with
  | nil => exact ⟨[], [], rfl, .inl rfl, trivial⟩
  | cons x l =>
    obtain ⟨h1, h2, h3⟩ := h
    by_cases hx : x.1 = t
    · exact ⟨[x], l, rfl, .inr ⟨x.2, by rw [← hx]⟩, by rw [← hx]; exact h3⟩
    · exact ⟨[], x :: l, rfl, .inl rfl, ⟨by omega, h2, h3⟩⟩
theorem rdP_ne {l : List (Int × Int)} (h : l ≠ []) : rdP l ≠ [] := fun c => by
  have := rdP_len l
  rw [c] at this
  simp only [List.length_nil] at this
  exact h (List.length_eq_zero_iff.1 (by omega))
theorem tf_st (c : Evt) (d : List Int) : tfO c (1, d) = if d = [] then none else some { c with st := bytesS d } := by
  simp [tfO]
theorem pc_st {c c1 : Evt} {p : List Fld} (hc : c.st = ⟨#[]⟩) (hp : OneF 1 p) (hB : ∀ x ∈ p, isB x.2) (h : decF c p = some c1) : ∃ s, c1 = { c with st := s } ∧ p = txtF 1 s := by
  rcases hp with rfl | ⟨d, rfl⟩
  · simp only [decF, Option.some.injEq] at h
    exact ⟨⟨#[]⟩, by rw [← h, ← hc], rfl⟩
  · rw [decF_one, tf_st] at h
    split at h
    · cases h
    · rename_i h0
      simp only [Option.some.injEq] at h
      refine ⟨bytesS d, h.symm, ?_⟩
      have : (bytesS d).size ≠ 0 := by rw [bytesS_size]; exact fun c => h0 (List.length_eq_zero_iff.1 c)
      unfold txtF
      rw [if_neg this, sB_bytesS (hB (1, d) (by simp))]
theorem de_st (c : Evt) (s : ByteArray) (hc : c.st = ⟨#[]⟩) : decF c (txtF 1 s) = some { c with st := s } := by
  unfold txtF
  split
  · rename_i h
    rw [← emp_iff] at h
    rw [h, ← hc]
    rfl
  · rename_i h
    have h0 : sB s ≠ [] := fun c => h (by rw [← sB_len, c]; rfl)
    rw [decF_one, tf_st, if_neg h0]
    have : bytesS (sB s) = s := strD_sB s
    rw [this]
theorem tf_tx (c : Evt) (d : List Int) : tfO c (2, d) = if d = [] then none else some { c with tx := bytesS d } := by
  simp [tfO]
theorem pc_tx {c c1 : Evt} {p : List Fld} (hc : c.tx = ⟨#[]⟩) (hp : OneF 2 p) (hB : ∀ x ∈ p, isB x.2) (h : decF c p = some c1) : ∃ s, c1 = { c with tx := s } ∧ p = txtF 2 s := by
  rcases hp with rfl | ⟨d, rfl⟩
  · simp only [decF, Option.some.injEq] at h
    exact ⟨⟨#[]⟩, by rw [← h, ← hc], rfl⟩
  · rw [decF_one, tf_tx] at h
    split at h
    · cases h
    · rename_i h0
      simp only [Option.some.injEq] at h
      refine ⟨bytesS d, h.symm, ?_⟩
      have : (bytesS d).size ≠ 0 := by rw [bytesS_size]; exact fun c => h0 (List.length_eq_zero_iff.1 c)
      unfold txtF
      rw [if_neg this, sB_bytesS (hB (2, d) (by simp))]
theorem de_tx (c : Evt) (s : ByteArray) (hc : c.tx = ⟨#[]⟩) : decF c (txtF 2 s) = some { c with tx := s } := by
  unfold txtF
  split
  · rename_i h
    rw [← emp_iff] at h
    rw [h, ← hc]
    rfl
  · rename_i h
    have h0 : sB s ≠ [] := fun c => h (by rw [← sB_len, c]; rfl)
    rw [decF_one, tf_tx, if_neg h0]
    have : bytesS (sB s) = s := strD_sB s
    rw [this]
theorem tf_tk (c : Evt) (d : List Int) : tfO c (7, d) = if d = [] then none else some { c with tk := bytesS d } := by
  simp [tfO]
theorem pc_tk {c c1 : Evt} {p : List Fld} (hc : c.tk = ⟨#[]⟩) (hp : OneF 7 p) (hB : ∀ x ∈ p, isB x.2) (h : decF c p = some c1) : ∃ s, c1 = { c with tk := s } ∧ p = txtF 7 s := by
  rcases hp with rfl | ⟨d, rfl⟩
  · simp only [decF, Option.some.injEq] at h
    exact ⟨⟨#[]⟩, by rw [← h, ← hc], rfl⟩
  · rw [decF_one, tf_tk] at h
    split at h
    · cases h
    · rename_i h0
      simp only [Option.some.injEq] at h
      refine ⟨bytesS d, h.symm, ?_⟩
      have : (bytesS d).size ≠ 0 := by rw [bytesS_size]; exact fun c => h0 (List.length_eq_zero_iff.1 c)
      unfold txtF
      rw [if_neg this, sB_bytesS (hB (7, d) (by simp))]
theorem de_tk (c : Evt) (s : ByteArray) (hc : c.tk = ⟨#[]⟩) : decF c (txtF 7 s) = some { c with tk := s } := by
  unfold txtF
  split
  · rename_i h
    rw [← emp_iff] at h
    rw [h, ← hc]
    rfl
  · rename_i h
    have h0 : sB s ≠ [] := fun c => h (by rw [← sB_len, c]; rfl)
    rw [decF_one, tf_tk, if_neg h0]
    have : bytesS (sB s) = s := strD_sB s
    rw [this]
theorem tf_co (c : Evt) (d : List Int) : tfO c (3, d) = match tiO d with | none => none | some n => if n = 0 then none else some { c with co := n } := by
  simp only [tfO]
  cases tiO d <;> simp
theorem pc_co {c c1 : Evt} {p : List Fld} (hc : c.co = 0) (hp : OneF 3 p) (hB : ∀ x ∈ p, isB x.2) (h : decF c p = some c1) : ∃ n, c1 = { c with co := n } ∧ p = numF 3 n := by
  rcases hp with rfl | ⟨d, rfl⟩
  · simp only [decF, Option.some.injEq] at h
    exact ⟨0, by rw [← h, ← hc], rfl⟩
  · rw [decF_one, tf_co] at h
    split at h
    · cases h
    · rename_i n hn
      split at h
      · cases h
      · rename_i h0
        simp only [Option.some.injEq] at h
        refine ⟨n, h.symm, ?_⟩
        unfold numF
        rw [if_neg h0, ← (tiO_some (hB (3, d) (by simp)) hn).1]
theorem de_co (c : Evt) (n : Int) (hn : in64 n) (hc : c.co = 0) : decF c (numF 3 n) = some { c with co := n } := by
  unfold numF
  split
  · rename_i h
    rw [h, ← hc]
    rfl
  · rename_i h
    rw [decF_one, tf_co, tiO_put hn]
    simp only []
    rw [if_neg h]
theorem tf_sq (c : Evt) (d : List Int) : tfO c (4, d) = match tiO d with | none => none | some n => if n = 0 then none else some { c with sq := n } := by
  simp only [tfO]
  cases tiO d <;> simp
theorem pc_sq {c c1 : Evt} {p : List Fld} (hc : c.sq = 0) (hp : OneF 4 p) (hB : ∀ x ∈ p, isB x.2) (h : decF c p = some c1) : ∃ n, c1 = { c with sq := n } ∧ p = numF 4 n := by
  rcases hp with rfl | ⟨d, rfl⟩
  · simp only [decF, Option.some.injEq] at h
    exact ⟨0, by rw [← h, ← hc], rfl⟩
  · rw [decF_one, tf_sq] at h
    split at h
    · cases h
    · rename_i n hn
      split at h
      · cases h
      · rename_i h0
        simp only [Option.some.injEq] at h
        refine ⟨n, h.symm, ?_⟩
        unfold numF
        rw [if_neg h0, ← (tiO_some (hB (4, d) (by simp)) hn).1]
theorem de_sq (c : Evt) (n : Int) (hn : in64 n) (hc : c.sq = 0) : decF c (numF 4 n) = some { c with sq := n } := by
  unfold numF
  split
  · rename_i h
    rw [h, ← hc]
    rfl
  · rename_i h
    rw [decF_one, tf_sq, tiO_put hn]
    simp only []
    rw [if_neg h]
theorem tf_ki (c : Evt) (d : List Int) : tfO c (5, d) = match tiO d with | none => none | some n => if n = 0 then none else some { c with ki := n } := by
  simp only [tfO]
  cases tiO d <;> simp
theorem pc_ki {c c1 : Evt} {p : List Fld} (hc : c.ki = 0) (hp : OneF 5 p) (hB : ∀ x ∈ p, isB x.2) (h : decF c p = some c1) : ∃ n, c1 = { c with ki := n } ∧ p = numF 5 n := by
  rcases hp with rfl | ⟨d, rfl⟩
  · simp only [decF, Option.some.injEq] at h
    exact ⟨0, by rw [← h, ← hc], rfl⟩
  · rw [decF_one, tf_ki] at h
    split at h
    · cases h
    · rename_i n hn
      split at h
      · cases h
      · rename_i h0
        simp only [Option.some.injEq] at h
        refine ⟨n, h.symm, ?_⟩
        unfold numF
        rw [if_neg h0, ← (tiO_some (hB (5, d) (by simp)) hn).1]
theorem de_ki (c : Evt) (n : Int) (hn : in64 n) (hc : c.ki = 0) : decF c (numF 5 n) = some { c with ki := n } := by
  unfold numF
  split
  · rename_i h
    rw [h, ← hc]
    rfl
  · rename_i h
    rw [decF_one, tf_ki, tiO_put hn]
    simp only []
    rw [if_neg h]
theorem tf_at' (c : Evt) (d : List Int) : tfO c (6, d) = match tiO d with | none => none | some n => if n = 0 then none else some { c with at' := n } := by
  simp only [tfO]
  cases tiO d <;> simp
theorem pc_at' {c c1 : Evt} {p : List Fld} (hc : c.at' = 0) (hp : OneF 6 p) (hB : ∀ x ∈ p, isB x.2) (h : decF c p = some c1) : ∃ n, c1 = { c with at' := n } ∧ p = numF 6 n := by
  rcases hp with rfl | ⟨d, rfl⟩
  · simp only [decF, Option.some.injEq] at h
    exact ⟨0, by rw [← h, ← hc], rfl⟩
  · rw [decF_one, tf_at'] at h
    split at h
    · cases h
    · rename_i n hn
      split at h
      · cases h
      · rename_i h0
        simp only [Option.some.injEq] at h
        refine ⟨n, h.symm, ?_⟩
        unfold numF
        rw [if_neg h0, ← (tiO_some (hB (6, d) (by simp)) hn).1]
theorem de_at' (c : Evt) (n : Int) (hn : in64 n) (hc : c.at' = 0) : decF c (numF 6 n) = some { c with at' := n } := by
  unfold numF
  split
  · rename_i h
    rw [h, ← hc]
    rfl
  · rename_i h
    rw [decF_one, tf_at', tiO_put hn]
    simp only []
    rw [if_neg h]
theorem tf_re (c : Evt) (d : List Int) : tfO c (9, d) = match tiO d with | none => none | some n => if n = 0 then none else some { c with re := n } := by
  simp only [tfO]
  cases tiO d <;> simp
theorem pc_re {c c1 : Evt} {p : List Fld} (hc : c.re = 0) (hp : OneF 9 p) (hB : ∀ x ∈ p, isB x.2) (h : decF c p = some c1) : ∃ n, c1 = { c with re := n } ∧ p = numF 9 n := by
  rcases hp with rfl | ⟨d, rfl⟩
  · simp only [decF, Option.some.injEq] at h
    exact ⟨0, by rw [← h, ← hc], rfl⟩
  · rw [decF_one, tf_re] at h
    split at h
    · cases h
    · rename_i n hn
      split at h
      · cases h
      · rename_i h0
        simp only [Option.some.injEq] at h
        refine ⟨n, h.symm, ?_⟩
        unfold numF
        rw [if_neg h0, ← (tiO_some (hB (9, d) (by simp)) hn).1]
theorem de_re (c : Evt) (n : Int) (hn : in64 n) (hc : c.re = 0) : decF c (numF 9 n) = some { c with re := n } := by
  unfold numF
  split
  · rename_i h
    rw [h, ← hc]
    rfl
  · rename_i h
    rw [decF_one, tf_re, tiO_put hn]
    simp only []
    rw [if_neg h]
theorem tf_off (c : Evt) (d : List Int) : tfO c (8, d) = match tiO d with | none => none | some n => if n = 0 then none else (if n = 1 then some { c with off := true } else none) := by
  simp only [tfO]
  cases tiO d <;> simp
theorem pc_off {c c1 : Evt} {p : List Fld} (hc : c.off = false) (hp : OneF 8 p) (hB : ∀ x ∈ p, isB x.2) (h : decF c p = some c1) : ∃ n, c1 = { c with off := n } ∧ p = flagF 8 n := by
  rcases hp with rfl | ⟨d, rfl⟩
  · simp only [decF, Option.some.injEq] at h
    exact ⟨false, by rw [← h, ← hc], rfl⟩
  · rw [decF_one, tf_off] at h
    split at h
    · cases h
    · rename_i n hn
      split at h
      · cases h
      · split at h
        · rename_i h1
          simp only [Option.some.injEq] at h
          refine ⟨true, h.symm, ?_⟩
          have this : d = putS n := (tiO_some (hB (8, d) (by simp)) hn).1
          rw [h1] at this
          rw [this]
          rfl
        · cases h
theorem de_off (c : Evt) (b : Bool) (hc : c.off = false) : decF c (flagF 8 b) = some { c with off := b } := by
  unfold flagF
  split
  · rename_i h
    rw [decF_one, tf_off, tiO_put (n := 1) (by unfold in64; omega), h]
    rfl
  · rename_i h
    have hb : b = false := by simpa using h
    rw [hb, ← hc]
    rfl
theorem tf_rd (c : Evt) (d : List Int) : tfO c (10, d) = if (takerdS d).2 = true ∧ (takerdS d).1 ≠ [] then some { c with rd := (takerdS d).1 } else none := by
  simp [tfO]
theorem pc_rd {c c1 : Evt} {p : List Fld} (hc : c.rd = []) (hp : OneF 10 p) (hB : ∀ x ∈ p, isB x.2) (h : decF c p = some c1) : ∃ r, c1 = { c with rd := r } ∧ p = listF 10 (rdP r) := by
  rcases hp with rfl | ⟨d, rfl⟩
  · simp only [decF, Option.some.injEq] at h
    exact ⟨[], by rw [← h, ← hc], rfl⟩
  · rw [decF_one, tf_rd] at h
    split at h
    · rename_i h0
      simp only [Option.some.injEq] at h
      refine ⟨(takerdS d).1, h.symm, ?_⟩
      unfold listF
      rw [if_neg (rdP_ne h0.2), (takerdS_T (hB (10, d) (by simp))).2.2 h0.1]
    · cases h
theorem pairsS_rdP : ∀ {l : List (Int × Int)}, (∀ x ∈ l, inI x.1 ∧ inI x.2) → pairsS (rdP l) = some l
  | [], _ => rfl
  | x :: l, h => by
    have hx := h x (by simp)
    have e : rdP (x :: l) = putS x.1 :: putS x.2 :: rdP l := rfl
    rw [e, pairsS, tiO_put hx.1, tiO_put hx.2, pairsS_rdP fun y hy => h y (by simp [hy])]
theorem takerd_put {l : List (Int × Int)} (h : ∀ x ∈ l, inI x.1 ∧ inI x.2) (hl : l.length ≤ 128) : takerdS (putL (rdP l)) = (l, true) := by
  have hL := rdP_len l
  have ht := takeList_put (l := rdP l) (by omega) (fun x hx => by have := rdP_small l x hx; omega)
  unfold takerdS
  rw [ht]
  simp only []
  rw [if_neg (by omega), pairsS_rdP h]
theorem de_rd (c : Evt) (l : List (Int × Int)) (h : ∀ x ∈ l, inI x.1 ∧ inI x.2) (hl : l.length ≤ 128) (hc : c.rd = []) : decF c (listF 10 (rdP l)) = some { c with rd := l } := by
  by_cases h0 : l = []
  · subst h0
    show some c = _
    rw [← hc]
  · unfold listF
    rw [if_neg (rdP_ne h0), decF_one, tf_rd, takerd_put h hl]
    simp only []
    rw [if_pos ⟨trivial, h0⟩]
theorem tf_none {c : Evt} {x : Fld} (h : 10 < x.1) : tfO c x = none := by
  unfold tfO
  rw [if_neg (by omega), if_neg (by omega), if_neg (by omega), if_neg (by omega)]
  cases tiO x.2 with
  | none => rfl
  | some n =>
    simp only []
    by_cases h0 : n = 0
    · rw [if_pos h0]
    · rw [if_neg h0, if_neg (by omega), if_neg (by omega), if_neg (by omega), if_neg (by omega), if_neg (by omega), if_neg (by omega)]
theorem decF_fldE {l : List Fld} {e : Evt} (ha : Asc 0 l) (hB : ∀ x ∈ l, isB x.2) (h : decF ev0 l = some e) : fldE e = l := by
  have a0 := ha
  have r0B := hB
  obtain ⟨l0, hl0⟩ : ∃ m, m = l := ⟨_, rfl⟩
  rw [← hl0] at h a0 r0B
  obtain ⟨p1, l1, e1, o1, a1⟩ := peel (t := 1) (l := l0) (by simpa using a0)
  have b1 : ∀ x ∈ p1, isB x.2 := fun x hx => r0B x (by rw [e1]; simp [hx])
  have r1B : ∀ x ∈ l1, isB x.2 := fun x hx => r0B x (by rw [e1]; simp [hx])
  rw [e1, decF_app] at h
  cases h1 : decF ev0 p1 with
  | none => rw [h1] at h; cases h
  | some c1 =>
  rw [h1] at h
  obtain ⟨s1, k1, q1⟩ := pc_st rfl o1 b1 h1
  subst k1
  simp only [ev0] at h
  obtain ⟨p2, l2, e2, o2, a2⟩ := peel (t := 2) (l := l1) (by simpa using a1)
  have b2 : ∀ x ∈ p2, isB x.2 := fun x hx => r1B x (by rw [e2]; simp [hx])
  have r2B : ∀ x ∈ l2, isB x.2 := fun x hx => r1B x (by rw [e2]; simp [hx])
  rw [e2, decF_app] at h
  cases h2 : decF (⟨s1, ⟨#[]⟩, 0, 0, 0, 0, ⟨#[]⟩, false, 0, []⟩ : Evt) p2 with
  | none => rw [h2] at h; cases h
  | some c2 =>
  rw [h2] at h
  obtain ⟨s2, k2, q2⟩ := pc_tx rfl o2 b2 h2
  subst k2
  simp only [ev0] at h
  obtain ⟨p3, l3, e3, o3, a3⟩ := peel (t := 3) (l := l2) (by simpa using a2)
  have b3 : ∀ x ∈ p3, isB x.2 := fun x hx => r2B x (by rw [e3]; simp [hx])
  have r3B : ∀ x ∈ l3, isB x.2 := fun x hx => r2B x (by rw [e3]; simp [hx])
  rw [e3, decF_app] at h
  cases h3 : decF (⟨s1, s2, 0, 0, 0, 0, ⟨#[]⟩, false, 0, []⟩ : Evt) p3 with
  | none => rw [h3] at h; cases h
  | some c3 =>
  rw [h3] at h
  obtain ⟨s3, k3, q3⟩ := pc_co rfl o3 b3 h3
  subst k3
  simp only [ev0] at h
  obtain ⟨p4, l4, e4, o4, a4⟩ := peel (t := 4) (l := l3) (by simpa using a3)
  have b4 : ∀ x ∈ p4, isB x.2 := fun x hx => r3B x (by rw [e4]; simp [hx])
  have r4B : ∀ x ∈ l4, isB x.2 := fun x hx => r3B x (by rw [e4]; simp [hx])
  rw [e4, decF_app] at h
  cases h4 : decF (⟨s1, s2, s3, 0, 0, 0, ⟨#[]⟩, false, 0, []⟩ : Evt) p4 with
  | none => rw [h4] at h; cases h
  | some c4 =>
  rw [h4] at h
  obtain ⟨s4, k4, q4⟩ := pc_sq rfl o4 b4 h4
  subst k4
  simp only [ev0] at h
  obtain ⟨p5, l5, e5, o5, a5⟩ := peel (t := 5) (l := l4) (by simpa using a4)
  have b5 : ∀ x ∈ p5, isB x.2 := fun x hx => r4B x (by rw [e5]; simp [hx])
  have r5B : ∀ x ∈ l5, isB x.2 := fun x hx => r4B x (by rw [e5]; simp [hx])
  rw [e5, decF_app] at h
  cases h5 : decF (⟨s1, s2, s3, s4, 0, 0, ⟨#[]⟩, false, 0, []⟩ : Evt) p5 with
  | none => rw [h5] at h; cases h
  | some c5 =>
  rw [h5] at h
  obtain ⟨s5, k5, q5⟩ := pc_ki rfl o5 b5 h5
  subst k5
  simp only [ev0] at h
  obtain ⟨p6, l6, e6, o6, a6⟩ := peel (t := 6) (l := l5) (by simpa using a5)
  have b6 : ∀ x ∈ p6, isB x.2 := fun x hx => r5B x (by rw [e6]; simp [hx])
  have r6B : ∀ x ∈ l6, isB x.2 := fun x hx => r5B x (by rw [e6]; simp [hx])
  rw [e6, decF_app] at h
  cases h6 : decF (⟨s1, s2, s3, s4, s5, 0, ⟨#[]⟩, false, 0, []⟩ : Evt) p6 with
  | none => rw [h6] at h; cases h
  | some c6 =>
  rw [h6] at h
  obtain ⟨s6, k6, q6⟩ := pc_at' rfl o6 b6 h6
  subst k6
  simp only [ev0] at h
  obtain ⟨p7, l7, e7, o7, a7⟩ := peel (t := 7) (l := l6) (by simpa using a6)
  have b7 : ∀ x ∈ p7, isB x.2 := fun x hx => r6B x (by rw [e7]; simp [hx])
  have r7B : ∀ x ∈ l7, isB x.2 := fun x hx => r6B x (by rw [e7]; simp [hx])
  rw [e7, decF_app] at h
  cases h7 : decF (⟨s1, s2, s3, s4, s5, s6, ⟨#[]⟩, false, 0, []⟩ : Evt) p7 with
  | none => rw [h7] at h; cases h
  | some c7 =>
  rw [h7] at h
  obtain ⟨s7, k7, q7⟩ := pc_tk rfl o7 b7 h7
  subst k7
  simp only [ev0] at h
  obtain ⟨p8, l8, e8, o8, a8⟩ := peel (t := 8) (l := l7) (by simpa using a7)
  have b8 : ∀ x ∈ p8, isB x.2 := fun x hx => r7B x (by rw [e8]; simp [hx])
  have r8B : ∀ x ∈ l8, isB x.2 := fun x hx => r7B x (by rw [e8]; simp [hx])
  rw [e8, decF_app] at h
  cases h8 : decF (⟨s1, s2, s3, s4, s5, s6, s7, false, 0, []⟩ : Evt) p8 with
  | none => rw [h8] at h; cases h
  | some c8 =>
  rw [h8] at h
  obtain ⟨s8, k8, q8⟩ := pc_off rfl o8 b8 h8
  subst k8
  simp only [ev0] at h
  obtain ⟨p9, l9, e9, o9, a9⟩ := peel (t := 9) (l := l8) (by simpa using a8)
  have b9 : ∀ x ∈ p9, isB x.2 := fun x hx => r8B x (by rw [e9]; simp [hx])
  have r9B : ∀ x ∈ l9, isB x.2 := fun x hx => r8B x (by rw [e9]; simp [hx])
  rw [e9, decF_app] at h
  cases h9 : decF (⟨s1, s2, s3, s4, s5, s6, s7, s8, 0, []⟩ : Evt) p9 with
  | none => rw [h9] at h; cases h
  | some c9 =>
  rw [h9] at h
  obtain ⟨s9, k9, q9⟩ := pc_re rfl o9 b9 h9
  subst k9
  simp only [ev0] at h
  obtain ⟨p10, l10, e10, o10, a10⟩ := peel (t := 10) (l := l9) (by simpa using a9)
  have b10 : ∀ x ∈ p10, isB x.2 := fun x hx => r9B x (by rw [e10]; simp [hx])
  have r10B : ∀ x ∈ l10, isB x.2 := fun x hx => r9B x (by rw [e10]; simp [hx])
  rw [e10, decF_app] at h
  cases h10 : decF (⟨s1, s2, s3, s4, s5, s6, s7, s8, s9, []⟩ : Evt) p10 with
  | none => rw [h10] at h; cases h
  | some c10 =>
  rw [h10] at h
  obtain ⟨s10, k10, q10⟩ := pc_rd rfl o10 b10 h10
  subst k10
  simp only [ev0] at h
  have hr : l10 = [] := by
    cases l10 with
    | nil => rfl
    | cons x m =>
      simp only [decF] at h
      rw [tf_none a10.1] at h
      cases h
  subst hr
  simp only [decF, Option.some.injEq] at h
  subst h
  rw [← hl0, e1, e2, e3, e4, e5, e6, e7, e8, e9, e10, q1, q2, q3, q4, q5, q6, q7, q8, q9, q10]
  unfold fldE
  simp only [List.append_assoc, List.append_nil]
theorem decF_of {e : Evt} (he : EvT e) (hw : Okw e) : decF ev0 (fldE e) = some e := by
  unfold fldE
  have h1 : decF ev0 (txtF 1 e.st) = some (⟨e.st, ⟨#[]⟩, 0, 0, 0, 0, ⟨#[]⟩, false, 0, []⟩ : Evt) := de_st ev0 e.st rfl
  have h2 : decF ev0 (txtF 1 e.st ++ txtF 2 e.tx) = some (⟨e.st, e.tx, 0, 0, 0, 0, ⟨#[]⟩, false, 0, []⟩ : Evt) := by
    rw [decF_app, h1]
    exact de_tx (⟨e.st, ⟨#[]⟩, 0, 0, 0, 0, ⟨#[]⟩, false, 0, []⟩ : Evt) e.tx rfl
  have h3 : decF ev0 (txtF 1 e.st ++ txtF 2 e.tx ++ numF 3 e.co) = some (⟨e.st, e.tx, e.co, 0, 0, 0, ⟨#[]⟩, false, 0, []⟩ : Evt) := by
    rw [decF_app, h2]
    exact de_co (⟨e.st, e.tx, 0, 0, 0, 0, ⟨#[]⟩, false, 0, []⟩ : Evt) e.co he.co rfl
  have h4 : decF ev0 (txtF 1 e.st ++ txtF 2 e.tx ++ numF 3 e.co ++ numF 4 e.sq) = some (⟨e.st, e.tx, e.co, e.sq, 0, 0, ⟨#[]⟩, false, 0, []⟩ : Evt) := by
    rw [decF_app, h3]
    exact de_sq (⟨e.st, e.tx, e.co, 0, 0, 0, ⟨#[]⟩, false, 0, []⟩ : Evt) e.sq he.sq rfl
  have h5 : decF ev0 (txtF 1 e.st ++ txtF 2 e.tx ++ numF 3 e.co ++ numF 4 e.sq ++ numF 5 e.ki) = some (⟨e.st, e.tx, e.co, e.sq, e.ki, 0, ⟨#[]⟩, false, 0, []⟩ : Evt) := by
    rw [decF_app, h4]
    exact de_ki (⟨e.st, e.tx, e.co, e.sq, 0, 0, ⟨#[]⟩, false, 0, []⟩ : Evt) e.ki he.ki rfl
  have h6 : decF ev0 (txtF 1 e.st ++ txtF 2 e.tx ++ numF 3 e.co ++ numF 4 e.sq ++ numF 5 e.ki ++ numF 6 e.at') = some (⟨e.st, e.tx, e.co, e.sq, e.ki, e.at', ⟨#[]⟩, false, 0, []⟩ : Evt) := by
    rw [decF_app, h5]
    exact de_at' (⟨e.st, e.tx, e.co, e.sq, e.ki, 0, ⟨#[]⟩, false, 0, []⟩ : Evt) e.at' he.at' rfl
  have h7 : decF ev0 (txtF 1 e.st ++ txtF 2 e.tx ++ numF 3 e.co ++ numF 4 e.sq ++ numF 5 e.ki ++ numF 6 e.at' ++ txtF 7 e.tk) = some (⟨e.st, e.tx, e.co, e.sq, e.ki, e.at', e.tk, false, 0, []⟩ : Evt) := by
    rw [decF_app, h6]
    exact de_tk (⟨e.st, e.tx, e.co, e.sq, e.ki, e.at', ⟨#[]⟩, false, 0, []⟩ : Evt) e.tk rfl
  have h8 : decF ev0 (txtF 1 e.st ++ txtF 2 e.tx ++ numF 3 e.co ++ numF 4 e.sq ++ numF 5 e.ki ++ numF 6 e.at' ++ txtF 7 e.tk ++ flagF 8 e.off) = some (⟨e.st, e.tx, e.co, e.sq, e.ki, e.at', e.tk, e.off, 0, []⟩ : Evt) := by
    rw [decF_app, h7]
    exact de_off (⟨e.st, e.tx, e.co, e.sq, e.ki, e.at', e.tk, false, 0, []⟩ : Evt) e.off rfl
  have h9 : decF ev0 (txtF 1 e.st ++ txtF 2 e.tx ++ numF 3 e.co ++ numF 4 e.sq ++ numF 5 e.ki ++ numF 6 e.at' ++ txtF 7 e.tk ++ flagF 8 e.off ++ numF 9 e.re) = some (⟨e.st, e.tx, e.co, e.sq, e.ki, e.at', e.tk, e.off, e.re, []⟩ : Evt) := by
    rw [decF_app, h8]
    exact de_re (⟨e.st, e.tx, e.co, e.sq, e.ki, e.at', e.tk, e.off, 0, []⟩ : Evt) e.re he.re rfl
  have h10 : decF ev0 (txtF 1 e.st ++ txtF 2 e.tx ++ numF 3 e.co ++ numF 4 e.sq ++ numF 5 e.ki ++ numF 6 e.at' ++ txtF 7 e.tk ++ flagF 8 e.off ++ numF 9 e.re ++ listF 10 (rdP e.rd)) = some (⟨e.st, e.tx, e.co, e.sq, e.ki, e.at', e.tk, e.off, e.re, e.rd⟩ : Evt) := by
    rw [decF_app, h9]
    exact de_rd (⟨e.st, e.tx, e.co, e.sq, e.ki, e.at', e.tk, e.off, e.re, []⟩ : Evt) e.rd he.rd hw.2.2.2 rfl
  exact h10
theorem getS_skip {s q : Int} {p r : List Fld} (hp : OneF s p) (h : s ≠ q) : getS (p ++ r) q = getS r q := by
  rcases hp with rfl | ⟨d, rfl⟩
  · rfl
  · unfold getS
    rw [List.singleton_append, List.find?_cons]
    rw [show (((s, d) : Fld).1 == q) = false from beq_eq_false_iff_ne.2 h]
theorem getS_none : ∀ {r : List Fld} {q b : Int}, q ≤ b → Asc b r → getS r q = ([], false)
  | [], _, _, _, _ => rfl
  | x :: r, q, b, hq, ha => by
    have := getS_none (r := r) (q := q) (b := x.1) (by have := ha.1; omega) ha.2.2
    unfold getS at this ⊢
    rw [List.find?_cons, show (x.1 == q) = false from beq_eq_false_iff_ne.2 (by have := ha.1; omega)]
    exact this
theorem getS_one {q : Int} {d : List Int} {r : List Fld} : getS ((q, d) :: r) q = (d, true) := by simp [getS]
theorem get_txt {q : Int} {s : ByteArray} {r : List Fld} (ha : Asc q r) : bytesS (getS (txtF q s ++ r) q).1 = s := by
  unfold txtF
  split
  · rename_i h
    rw [List.nil_append, getS_none (Int.le_refl _) ha]
    rw [← emp_iff] at h
    rw [h]
    rfl
  · rw [List.singleton_append, getS_one]
    exact strD_sB s
theorem takeIntS_put {n : Int} (hn : in64 n) : takeIntS (putS n) = (n, 0) := by
  have hr := read_put hn []
  rw [List.append_nil] at hr
  simp [takeIntS, hr]
theorem get_num {q n : Int} {l r : List Fld} (hn : in64 n) (ha : Asc q r) (he : getS l q = getS (numF q n ++ r) q) : numL l q = n := by
  unfold numL
  rw [he]
  unfold numF
  split
  · rename_i h
    rw [List.nil_append, getS_none (Int.le_refl _) ha, if_neg (fun c => by cases c.1), h]
  · rw [List.singleton_append, getS_one, takeIntS_put hn, if_pos ⟨rfl, rfl⟩]
theorem get_flag {q : Int} {b : Bool} {l r : List Fld} (ha : Asc q r) (he : getS l q = getS (flagF q b ++ r) q) : (numL l q == 1) = b := by
  unfold numL
  rw [he]
  unfold flagF
  split
  · rename_i h
    rw [List.singleton_append, getS_one, takeIntS_put (n := 1) (by unfold in64; omega), if_pos ⟨rfl, rfl⟩, h]
    rfl
  · rename_i h
    rw [List.nil_append, getS_none (Int.le_refl _) ha, if_neg (fun c => by cases c.1)]
    cases b
    · rfl
    · exact absurd rfl h
theorem ints_rdP : ∀ {l : List (Int × Int)}, (∀ x ∈ l, inI x.1 ∧ inI x.2) → rdPairs ((rdP l).filterMap tiO) = l
  | [], _ => rfl
  | x :: l, h => by
    have hx := h x (by simp)
    have e : rdP (x :: l) = putS x.1 :: putS x.2 :: rdP l := rfl
    rw [e, List.filterMap_cons, tiO_put hx.1]
    simp only []
    rw [List.filterMap_cons, tiO_put hx.2]
    simp only [rdPairs]
    rw [ints_rdP fun y hy => h y (by simp [hy])]
theorem get_rd {l : List Fld} {p : List (Int × Int)} (h : ∀ x ∈ p, inI x.1 ∧ inI x.2) (hl : p.length ≤ 128) (he : getS l 10 = getS (listF 10 (rdP p)) 10) : rdPairs (intsL l 10) = p := by
  unfold intsL
  rw [he]
  by_cases h0 : p = []
  · subst h0
    rfl
  · have hL := rdP_len p
    unfold listF
    rw [if_neg (rdP_ne h0), getS_one, if_pos rfl]
    have ht := takeList_put (l := rdP p) (by omega) (fun x hx => by have := rdP_small p x hx; omega)
    unfold partsL
    rw [ht]
    exact ints_rdP h
theorem look_fldE {e : Evt} (he : EvT e) (hw : Okw e) : lookE (fldE e) = e := by
  obtain ⟨a1, a2, a3, a4, a5, a6, a7, a8, a9⟩ : Asc 1 (txtF 2 e.tx ++ (numF 3 e.co ++ (numF 4 e.sq ++ (numF 5 e.ki ++ (numF 6 e.at' ++ (txtF 7 e.tk ++ (flagF 8 e.off ++ (numF 9 e.re ++ (listF 10 (rdP e.rd)))))))))) ∧ Asc 2 (numF 3 e.co ++ (numF 4 e.sq ++ (numF 5 e.ki ++ (numF 6 e.at' ++ (txtF 7 e.tk ++ (flagF 8 e.off ++ (numF 9 e.re ++ (listF 10 (rdP e.rd))))))))) ∧ Asc 3 (numF 4 e.sq ++ (numF 5 e.ki ++ (numF 6 e.at' ++ (txtF 7 e.tk ++ (flagF 8 e.off ++ (numF 9 e.re ++ (listF 10 (rdP e.rd)))))))) ∧ Asc 4 (numF 5 e.ki ++ (numF 6 e.at' ++ (txtF 7 e.tk ++ (flagF 8 e.off ++ (numF 9 e.re ++ (listF 10 (rdP e.rd))))))) ∧ Asc 5 (numF 6 e.at' ++ (txtF 7 e.tk ++ (flagF 8 e.off ++ (numF 9 e.re ++ (listF 10 (rdP e.rd)))))) ∧ Asc 6 (txtF 7 e.tk ++ (flagF 8 e.off ++ (numF 9 e.re ++ (listF 10 (rdP e.rd))))) ∧ Asc 7 (flagF 8 e.off ++ (numF 9 e.re ++ (listF 10 (rdP e.rd)))) ∧ Asc 8 (numF 9 e.re ++ (listF 10 (rdP e.rd))) ∧ Asc 9 (listF 10 (rdP e.rd)) := ⟨bet_asc (c := 10) (bet_app (bet_txt (t := 2) (by omega) (by omega)) (bet_app (bet_num (t := 3) (by omega) (by omega)) (bet_app (bet_num (t := 4) (by omega) (by omega)) (bet_app (bet_num (t := 5) (by omega) (by omega)) (bet_app (bet_num (t := 6) (by omega) (by omega)) (bet_app (bet_txt (t := 7) (by omega) (by omega)) (bet_app (bet_flag (t := 8) (by omega) (by omega)) (bet_app (bet_num (t := 9) (by omega) (by omega)) (bet_list (by omega) (by omega)))))))))), bet_asc (c := 10) (bet_app (bet_num (t := 3) (by omega) (by omega)) (bet_app (bet_num (t := 4) (by omega) (by omega)) (bet_app (bet_num (t := 5) (by omega) (by omega)) (bet_app (bet_num (t := 6) (by omega) (by omega)) (bet_app (bet_txt (t := 7) (by omega) (by omega)) (bet_app (bet_flag (t := 8) (by omega) (by omega)) (bet_app (bet_num (t := 9) (by omega) (by omega)) (bet_list (by omega) (by omega))))))))), bet_asc (c := 10) (bet_app (bet_num (t := 4) (by omega) (by omega)) (bet_app (bet_num (t := 5) (by omega) (by omega)) (bet_app (bet_num (t := 6) (by omega) (by omega)) (bet_app (bet_txt (t := 7) (by omega) (by omega)) (bet_app (bet_flag (t := 8) (by omega) (by omega)) (bet_app (bet_num (t := 9) (by omega) (by omega)) (bet_list (by omega) (by omega)))))))), bet_asc (c := 10) (bet_app (bet_num (t := 5) (by omega) (by omega)) (bet_app (bet_num (t := 6) (by omega) (by omega)) (bet_app (bet_txt (t := 7) (by omega) (by omega)) (bet_app (bet_flag (t := 8) (by omega) (by omega)) (bet_app (bet_num (t := 9) (by omega) (by omega)) (bet_list (by omega) (by omega))))))), bet_asc (c := 10) (bet_app (bet_num (t := 6) (by omega) (by omega)) (bet_app (bet_txt (t := 7) (by omega) (by omega)) (bet_app (bet_flag (t := 8) (by omega) (by omega)) (bet_app (bet_num (t := 9) (by omega) (by omega)) (bet_list (by omega) (by omega)))))), bet_asc (c := 10) (bet_app (bet_txt (t := 7) (by omega) (by omega)) (bet_app (bet_flag (t := 8) (by omega) (by omega)) (bet_app (bet_num (t := 9) (by omega) (by omega)) (bet_list (by omega) (by omega))))), bet_asc (c := 10) (bet_app (bet_flag (t := 8) (by omega) (by omega)) (bet_app (bet_num (t := 9) (by omega) (by omega)) (bet_list (by omega) (by omega)))), bet_asc (c := 10) (bet_app (bet_num (t := 9) (by omega) (by omega)) (bet_list (by omega) (by omega))), bet_asc (c := 10) (bet_list (by omega) (by omega))⟩
  have hf : fldE e = txtF 1 e.st ++ (txtF 2 e.tx ++ (numF 3 e.co ++ (numF 4 e.sq ++ (numF 5 e.ki ++ (numF 6 e.at' ++ (txtF 7 e.tk ++ (flagF 8 e.off ++ (numF 9 e.re ++ (listF 10 (rdP e.rd)))))))))) := by unfold fldE; simp only [List.append_assoc]
  have g1 : getS (fldE e) 1 = getS (txtF 1 e.st ++ (txtF 2 e.tx ++ (numF 3 e.co ++ (numF 4 e.sq ++ (numF 5 e.ki ++ (numF 6 e.at' ++ (txtF 7 e.tk ++ (flagF 8 e.off ++ (numF 9 e.re ++ (listF 10 (rdP e.rd))))))))))) 1 := by rw [hf]
  have g2 : getS (fldE e) 2 = getS (txtF 2 e.tx ++ (numF 3 e.co ++ (numF 4 e.sq ++ (numF 5 e.ki ++ (numF 6 e.at' ++ (txtF 7 e.tk ++ (flagF 8 e.off ++ (numF 9 e.re ++ (listF 10 (rdP e.rd)))))))))) 2 := by rw [hf, getS_skip (one_txt 1 _) (by decide)]
  have g3 : getS (fldE e) 3 = getS (numF 3 e.co ++ (numF 4 e.sq ++ (numF 5 e.ki ++ (numF 6 e.at' ++ (txtF 7 e.tk ++ (flagF 8 e.off ++ (numF 9 e.re ++ (listF 10 (rdP e.rd))))))))) 3 := by rw [hf, getS_skip (one_txt 1 _) (by decide), getS_skip (one_txt 2 _) (by decide)]
  have g4 : getS (fldE e) 4 = getS (numF 4 e.sq ++ (numF 5 e.ki ++ (numF 6 e.at' ++ (txtF 7 e.tk ++ (flagF 8 e.off ++ (numF 9 e.re ++ (listF 10 (rdP e.rd)))))))) 4 := by rw [hf, getS_skip (one_txt 1 _) (by decide), getS_skip (one_txt 2 _) (by decide), getS_skip (one_num 3 _) (by decide)]
  have g5 : getS (fldE e) 5 = getS (numF 5 e.ki ++ (numF 6 e.at' ++ (txtF 7 e.tk ++ (flagF 8 e.off ++ (numF 9 e.re ++ (listF 10 (rdP e.rd))))))) 5 := by rw [hf, getS_skip (one_txt 1 _) (by decide), getS_skip (one_txt 2 _) (by decide), getS_skip (one_num 3 _) (by decide), getS_skip (one_num 4 _) (by decide)]
  have g6 : getS (fldE e) 6 = getS (numF 6 e.at' ++ (txtF 7 e.tk ++ (flagF 8 e.off ++ (numF 9 e.re ++ (listF 10 (rdP e.rd)))))) 6 := by rw [hf, getS_skip (one_txt 1 _) (by decide), getS_skip (one_txt 2 _) (by decide), getS_skip (one_num 3 _) (by decide), getS_skip (one_num 4 _) (by decide), getS_skip (one_num 5 _) (by decide)]
  have g7 : getS (fldE e) 7 = getS (txtF 7 e.tk ++ (flagF 8 e.off ++ (numF 9 e.re ++ (listF 10 (rdP e.rd))))) 7 := by rw [hf, getS_skip (one_txt 1 _) (by decide), getS_skip (one_txt 2 _) (by decide), getS_skip (one_num 3 _) (by decide), getS_skip (one_num 4 _) (by decide), getS_skip (one_num 5 _) (by decide), getS_skip (one_num 6 _) (by decide)]
  have g8 : getS (fldE e) 8 = getS (flagF 8 e.off ++ (numF 9 e.re ++ (listF 10 (rdP e.rd)))) 8 := by rw [hf, getS_skip (one_txt 1 _) (by decide), getS_skip (one_txt 2 _) (by decide), getS_skip (one_num 3 _) (by decide), getS_skip (one_num 4 _) (by decide), getS_skip (one_num 5 _) (by decide), getS_skip (one_num 6 _) (by decide), getS_skip (one_txt 7 _) (by decide)]
  have g9 : getS (fldE e) 9 = getS (numF 9 e.re ++ (listF 10 (rdP e.rd))) 9 := by rw [hf, getS_skip (one_txt 1 _) (by decide), getS_skip (one_txt 2 _) (by decide), getS_skip (one_num 3 _) (by decide), getS_skip (one_num 4 _) (by decide), getS_skip (one_num 5 _) (by decide), getS_skip (one_num 6 _) (by decide), getS_skip (one_txt 7 _) (by decide), getS_skip (one_flag 8 _) (by decide)]
  have g10 : getS (fldE e) 10 = getS (listF 10 (rdP e.rd)) 10 := by rw [hf, getS_skip (one_txt 1 _) (by decide), getS_skip (one_txt 2 _) (by decide), getS_skip (one_num 3 _) (by decide), getS_skip (one_num 4 _) (by decide), getS_skip (one_num 5 _) (by decide), getS_skip (one_num 6 _) (by decide), getS_skip (one_txt 7 _) (by decide), getS_skip (one_flag 8 _) (by decide), getS_skip (one_num 9 _) (by decide)]
  have f1 : bytesS (getS (fldE e) 1).1 = e.st := by rw [g1]; exact get_txt a1
  have f2 : bytesS (getS (fldE e) 2).1 = e.tx := by rw [g2]; exact get_txt a2
  have f3 := get_num he.co a3 g3
  have f4 := get_num he.sq a4 g4
  have f5 := get_num he.ki a5 g5
  have f6 := get_num he.at' a6 g6
  have f7 : bytesS (getS (fldE e) 7).1 = e.tk := by rw [g7]; exact get_txt a7
  have f8 := get_flag a8 g8
  have f9 := get_num he.re a9 g9
  have f10 := get_rd he.rd hw.2.2.2 g10
  unfold lookE
  rw [f1, f2, f3, f4, f5, f6, f7, f8, f9, f10]
theorem tfO_W {c e : Evt} {x : Fld} (hc : Okw c) (hb : isB x.2) (hl : x.2.length ≤ 1000) (h : tfO c x = some e) : Okw e := by
  have hsz : (bytesS x.2).size ≤ 1000 := by rw [bytesS_size]; exact hl
  have hrd := takerdS_T hb
  obtain ⟨w1, w2, w3, w4⟩ := hc
  unfold tfO at h
  by_cases n1 : x.1 = 1
  · rw [if_pos n1] at h
    split at h
    · cases h
    · cases h; exact ⟨hsz, w2, w3, w4⟩
  rw [if_neg n1] at h
  by_cases n2 : x.1 = 2
  · rw [if_pos n2] at h
    split at h
    · cases h
    · cases h; exact ⟨w1, hsz, w3, w4⟩
  rw [if_neg n2] at h
  by_cases n7 : x.1 = 7
  · rw [if_pos n7] at h
    split at h
    · cases h
    · cases h; exact ⟨w1, w2, hsz, w4⟩
  rw [if_neg n7] at h
  by_cases n10 : x.1 = 10
  · rw [if_pos n10] at h
    split at h
    · cases h
      exact ⟨w1, w2, w3, hrd.1⟩
    · cases h
  rw [if_neg n10] at h
  cases hn : tiO x.2 with
  | none => rw [hn] at h; cases h
  | some n =>
    rw [hn] at h
    simp only [] at h
    by_cases z : n = 0
    · rw [if_pos z] at h; cases h
    rw [if_neg z] at h
    by_cases n3 : x.1 = 3
    · rw [if_pos n3] at h; cases h; exact ⟨w1, w2, w3, w4⟩
    rw [if_neg n3] at h
    by_cases n4 : x.1 = 4
    · rw [if_pos n4] at h; cases h; exact ⟨w1, w2, w3, w4⟩
    rw [if_neg n4] at h
    by_cases n5 : x.1 = 5
    · rw [if_pos n5] at h; cases h; exact ⟨w1, w2, w3, w4⟩
    rw [if_neg n5] at h
    by_cases n6 : x.1 = 6
    · rw [if_pos n6] at h; cases h; exact ⟨w1, w2, w3, w4⟩
    rw [if_neg n6] at h
    by_cases n8 : x.1 = 8
    · rw [if_pos n8] at h
      split at h
      · cases h; exact ⟨w1, w2, w3, w4⟩
      · cases h
    rw [if_neg n8] at h
    by_cases n9 : x.1 = 9
    · rw [if_pos n9] at h; cases h; exact ⟨w1, w2, w3, w4⟩
    rw [if_neg n9] at h
    cases h
theorem decF_TW : ∀ {l : List Fld} {c e : Evt}, EvT c → Okw c → (∀ x ∈ l, isB x.2 ∧ x.2.length ≤ 1000) → decF c l = some e → EvT e ∧ Okw e
  | [], c, e, h1, h2, _, h => by simp only [decF, Option.some.injEq] at h; subst h; exact ⟨h1, h2⟩
  | x :: l, c, e, h1, h2, hx, h => by
    simp only [decF] at h
    cases ho : tfO c x with
    | none => rw [ho] at h; cases h
    | some c' =>
      rw [ho] at h
      have := hx x (by simp)
      exact decF_TW (tfO_T h1 this.1 this.2 ho) (tfO_W h2 this.1 this.2 ho) (fun y hy => hx y (by simp [hy])) h
theorem ref_eq {b : List Int} (hb : isB b) (hl : b.length ≤ 1000) : refS b = decS b := by
  unfold refS decS
  cases hT : takeF b with
  | error e => rfl
  | ok l =>
    obtain ⟨hS, hP⟩ := take_sml hb hl hT
    obtain ⟨lT, lW⟩ := look_T hS
    simp only []
    cases hd : decF ev0 l with
    | some e =>
      obtain ⟨eT, eW⟩ := decF_TW ev0_T ⟨by decide, by decide, by decide, by decide⟩ hS.2 hd
      have hf := decF_fldE (put_asc l 0 b hP) (fun x hx => (hS.2 x hx).1) hd
      have hlk : lookE l = e := by rw [← hf]; exact look_fldE eT eW
      have hby : byE e = b := by
        have h1 := byE_put e
        rw [hf, putF_in hS.1, hP] at h1
        simp only [Except.ok.injEq] at h1
        exact h1.symm
      rw [hlk, if_pos hby]
    | none =>
      by_cases hby : byE (lookE l) = b
      · exfalso
        have h1 := take_byEG lW
        rw [hby, hT] at h1
        simp only [Except.ok.injEq] at h1
        have h2 := decF_of lT lW
        rw [← h1, hd] at h2
        cases h2
      · rw [if_neg hby]
end Go.Proofs.Ytmkkijgnlohieaa.O31d
set_option maxRecDepth 100000
set_option linter.unusedSimpArgs false
set_option linter.unusedVariables false
namespace Go.Proofs.Ytmkkijgnlohieaa.O31d
open Go.Proofs.Ytmkkijgnlohieaa Go.Proofs.Ytmkkijgnlohieaa.Sy Go.Proofs.Ytmkkijgnlohieaa.L7 Go.Proofs.Ytmkkijgnlohieaa.Id Go.Proofs.Ytmkkijgnlohieaa.R26 Go.Proofs.Ytmkkijgnlohieaa.E30 Go.Proofs.Ytmkkijgnlohieaa.D30 Go.Proofs.Ytmkkijgnlohieaa.O31 Go.RowKit Go.WideShapes Go.ChangeShapes Go.ChangeAt

theorem decS_facts {b : List Int} (hb : isB b) (hl : b.length ≤ 1000) : EvT (decS b).1 ∧ ((decS b).2 = 0 → byE (decS b).1 = b ∧ validS (decS b).1 = 0) := by
  unfold decS
  cases hT : takeF b with
  | error e => exact ⟨ev0_T, fun h => absurd h (tfS_err hT)⟩
  | ok l =>
    obtain ⟨hS, hP⟩ := take_sml hb hl hT
    simp only []
    cases hd : decF ev0 l with
    | none => exact ⟨ev0_T, fun h => by cases h⟩
    | some e =>
      obtain ⟨eT, eW⟩ := decF_TW ev0_T ⟨by decide, by decide, by decide, by decide⟩ hS.2 hd
      have hf := decF_fldE (put_asc l 0 b hP) (fun x hx => (hS.2 x hx).1) hd
      have hby : byE e = b := by
        have h1 := byE_put e
        rw [hf, putF_in hS.1, hP] at h1
        simp only [Except.ok.injEq] at h1
        exact h1.symm
      simp only []
      split
      · rename_i hv; exact ⟨eT, fun _ => ⟨hby, hv⟩⟩
      · rename_i hv; exact ⟨ev0_T, fun h => absurd h hv⟩
def decL : List (List Int) → Except Int (List Evt)
  | [] => .ok []
  | x :: l => if (decS x).2 ≠ 0 then .error (decS x).2 else match decL l with
    | .ok r => .ok ((decS x).1 :: r)
    | .error e => .error e
def loadT (x0 x1 x2 : Fld) : Ob × Int :=
  if x0.1 ≠ 1 ∨ x1.1 ≠ 2 ∨ x2.1 ≠ 3 then (ob0, 5) else if (takeIntS x0.2).2 ≠ 0 then (ob0, (takeIntS x0.2).2) else if (takeIntS x1.2).2 ≠ 0 then (ob0, (takeIntS x1.2).2)
  else match takeListS x2.2 with
    | .error e => (ob0, e)
    | .ok p => match decL p with
      | .error e => (ob0, e)
      | .ok its => if ovS ⟨(takeIntS x0.2).1, its, (takeIntS x1.2).1⟩ = 0 then (⟨(takeIntS x0.2).1, its, (takeIntS x1.2).1⟩, 0) else (ob0, ovS ⟨(takeIntS x0.2).1, its, (takeIntS x1.2).1⟩)
def loadF : List Fld → Ob × Int
  | [x0, x1, x2] => loadT x0 x1 x2
  | _ => (ob0, 5)
def loadS (b : List Int) : Ob × Int := match takeF b with
  | .error e => (ob0, e)
  | .ok l => loadF l
theorem decL_facts : ∀ {l : List (List Int)} {r : List Evt}, (∀ x ∈ l, isB x ∧ x.length ≤ 1000) → decL l = .ok r → r.map byE = l ∧ (∀ e ∈ r, EvT e ∧ validS e = 0) ∧ r.length = l.length
  | [], r, _, h => by cases h; exact ⟨rfl, (fun e he => by cases he), rfl⟩
  | x :: l, r, hx, h => by
    simp only [decL] at h
    split at h
    · cases h
    · rename_i h0
      have h0 : (decS x).2 = 0 := Decidable.not_not.1 h0
      have hxx := hx x (by simp)
      obtain ⟨f1, f2⟩ := decS_facts hxx.1 hxx.2
      cases hd : decL l with
      | error e => rw [hd] at h; cases h
      | ok r2 =>
        rw [hd] at h
        cases h
        obtain ⟨g1, g2, g3⟩ := decL_facts (fun y hy => hx y (by simp [hy])) hd
        refine ⟨by rw [List.map_cons, g1, (f2 h0).1], fun e he => ?_, by simp [g3]⟩
        rcases List.mem_cons.1 he with rfl | he
        · exact ⟨f1, (f2 h0).2⟩
        · exact g2 e he
theorem decL_err : ∀ {l : List (List Int)} {e : Int}, decL l = .error e → e ≠ 0
  | [], e, h => by cases h
  | x :: l, e, h => by
    simp only [decL] at h
    split at h
    · rename_i h0; cases h; exact h0
    · cases hd : decL l with
      | error e2 => rw [hd] at h; cases h; exact decL_err hd
      | ok r2 => rw [hd] at h; cases h
theorem rdecode_gen (b : List Int) (hb : isB b) (hl : b.length ≤ 1000) : Fun Try.prog [] 51 [tY] [bD b] [tE, tI] (.ok [evD (decS b).1, I64d (decS b).2]) := by
  have := rdecode_fn b hb hl
  rwa [ref_eq hb hl] at this
set_option maxHeartbeats 1000000 in
theorem load_gen (b : List Int) (hb : isB b) (hl : b.length ≤ 1000) : Fun Try.prog [] 25 [tY] [bD b] [tO, tI] (.ok [obD (loadS b).1, I64d (loadS b).2]) := by
  refine load_ent _ _ ?_
  show vcload.den _ _ _ _ _
  unfold vcload
  have ht := take_fn b hb (by omega)
  cases hT : takeF b with
  | error e =>
    rw [hT] at ht
    have he := tfS_err hT
    refine den_cal [.lst [], I64d e] rfl ht rfl rfl ?_
    (try simp only [List.cons_append, List.nil_append])
    refine den_t (by simp only [E.den, D.toI, D.toB, D.toL, D.toS, D.len, D.mapL, flatD, dE]; exact he) (den_ret ?_)
    have : loadS b = (ob0, e) := by unfold loadS; rw [hT]
    rw [this]
    rfl
  | ok l =>
    rw [hT] at ht
    obtain ⟨hS, _⟩ := take_sml hb hl hT
    have hLS : loadS b = loadF l := by unfold loadS; rw [hT]
    refine den_cal [fsD l, I64d 0] rfl ht rfl rfl ?_
    (try simp only [List.cons_append, List.nil_append])
    refine den_f rfl ?_
    refine den_ite (fun h => den_ret ?_) (fun h => ?_)
    · simp only [E.den, D.toI, D.toB, D.toL, D.toS, D.len, D.mapL, flatD, dE] at h
      have : loadF l = (ob0, 5) := by
        unfold loadF
        split
        · simp at h
        · rfl
      rw [hLS, this]
      rfl
    simp only [E.den, D.toI, D.toB, D.toL, D.toS, D.len, D.mapL, flatD, dE] at h
    obtain ⟨x0, x1, x2, rfl⟩ : ∃ x0 x1 x2, l = [x0, x1, x2] := by
      match l, h with
      | [a, b, c], _ => exact ⟨a, b, c, rfl⟩
      | [], h => simp at h
      | [a], h => simp at h
      | [a, b], h => simp at h
      | a :: b :: c :: d :: m, h => simp at h; omega
    have hLT : loadS b = loadT x0 x1 x2 := hLS
    clear hLS h
    have m0 := hS.2 x0 (by simp)
    have m1 := hS.2 x1 (by simp)
    have m2 := hS.2 x2 (by simp)
    have z0 : (0 : Int).toNat = 0 := rfl
    have z1 : (1 : Int).toNat = 1 := rfl
    have z2 : (2 : Int).toNat = 2 := rfl
    have hBad : (x0.1 ≠ 1 ∨ x1.1 ≠ 2 ∨ x2.1 ≠ 3) → FR.ok [.rc [I64d 0, .lst [], I64d 0], I64d 5] = FR.ok [obD (loadS b).1, I64d (loadS b).2] := fun h => by
      rw [hLT]; unfold loadT; rw [if_pos h]; rfl
    refine den_ev (evs_ob rfl (evs_nil ?_))
    refine den_ite (fun h0 => den_ret (hBad (.inl (by simp only [E.den, D.toI, D.toB, D.toL, D.toS, D.len, D.mapL, flatD, dE, z0] at h0; exact h0)))) (fun h0 => ?_)
    simp only [E.den, D.toI, D.toB, D.toL, D.toS, D.len, D.mapL, flatD, dE, z0] at h0
    refine den_ev (evs_ob rfl (evs_nil ?_))
    refine den_ite (fun h1 => den_ret (hBad (.inr (.inl (by simp only [E.den, D.toI, D.toB, D.toL, D.toS, D.len, D.mapL, flatD, dE, z1] at h1; exact h1))))) (fun h1 => ?_)
    simp only [E.den, D.toI, D.toB, D.toL, D.toS, D.len, D.mapL, flatD, dE, z1] at h1
    refine den_ev (evs_ob rfl (evs_nil ?_))
    refine den_ite (fun h2 => den_ret (hBad (.inr (.inr (by simp only [E.den, D.toI, D.toB, D.toL, D.toS, D.len, D.mapL, flatD, dE, z2] at h2; exact h2))))) (fun h2 => ?_)
    simp only [E.den, D.toI, D.toB, D.toL, D.toS, D.len, D.mapL, flatD, dE, z2] at h2
    have hok : ¬ (x0.1 ≠ 1 ∨ x1.1 ≠ 2 ∨ x2.1 ≠ 3) := by omega
    refine den_ev (evs_ob rfl (evs_nil ?_))
    refine den_cal [I64d (takeIntS x0.2).1, I64d (takeIntS x0.2).2] rfl (takeint_fn x0.2 m0.1 (by omega)) rfl rfl ?_
    (try simp only [List.cons_append, List.nil_append])
    refine den_ite (fun h3 => den_ret ?_) (fun h3 => ?_)
    · simp only [E.den, D.toI, D.toB, D.toL, D.toS, D.len, D.mapL, flatD, dE] at h3
      rw [hLT]
      unfold loadT
      rw [if_neg hok, if_pos h3]
      rfl
    simp only [E.den, D.toI, D.toB, D.toL, D.toS, D.len, D.mapL, flatD, dE] at h3
    refine den_ev (evs_ob rfl (evs_nil ?_))
    refine den_cal [I64d (takeIntS x1.2).1, I64d (takeIntS x1.2).2] rfl (takeint_fn x1.2 m1.1 (by omega)) rfl rfl ?_
    (try simp only [List.cons_append, List.nil_append])
    refine den_ite (fun h4 => den_ret ?_) (fun h4 => ?_)
    · simp only [E.den, D.toI, D.toB, D.toL, D.toS, D.len, D.mapL, flatD, dE] at h4
      rw [hLT]
      unfold loadT
      rw [if_neg hok, if_neg (fun c => c h3), if_pos h4]
      rfl
    simp only [E.den, D.toI, D.toB, D.toL, D.toS, D.len, D.mapL, flatD, dE] at h4
    have i0 := (tiO_some m0.1 (show tiO x0.2 = some _ by unfold tiO; rw [if_pos h3])).2
    have i1 := (tiO_some m1.1 (show tiO x1.2 = some _ by unfold tiO; rw [if_pos h4])).2
    refine den_ev (evs_ob rfl (evs_nil ?_))
    have hl7 := takel_fn x2.2 m2.1 (by omega)
    cases hTL : takeListS x2.2 with
    | error e =>
      rw [hTL] at hl7
      have he := tlS_err hTL
      refine den_cal [.lst [], I64d e] rfl hl7 rfl rfl ?_
      (try simp only [List.cons_append, List.nil_append])
      refine den_t (by simp only [E.den, D.toI, D.toB, D.toL, D.toS, D.len, D.mapL, flatD, dE]; exact he) (den_ret ?_)
      rw [hLT]
      unfold loadT
      rw [if_neg hok, if_neg (fun c => c h3), if_neg (fun c => c h4), hTL]
      rfl
    | ok p =>
      rw [hTL] at hl7
      obtain ⟨_, h256, hpx⟩ := put_takeList m2.1 hTL
      have hpx2 : ∀ d ∈ p, isB d ∧ d.length ≤ 1000 := fun d hd => ⟨(hpx d hd).1, by have := (hpx d hd).2; have := m2.2; omega⟩
      have hLD : loadS b = match decL p with
          | .error e => (ob0, e)
          | .ok its => if ovS ⟨(takeIntS x0.2).1, its, (takeIntS x1.2).1⟩ = 0 then (⟨(takeIntS x0.2).1, its, (takeIntS x1.2).1⟩, 0) else (ob0, ovS ⟨(takeIntS x0.2).1, its, (takeIntS x1.2).1⟩) := by
        rw [hLT]
        unfold loadT
        rw [if_neg hok, if_neg (fun c => c h3), if_neg (fun c => c h4), hTL]
      refine den_cal [bbD p, I64d 0] rfl hl7 rfl rfl ?_
      (try simp only [List.cons_append, List.nil_append])
      refine den_f rfl ?_
      generalize (takeIntS x0.2).1 = n0 at *
      generalize (takeIntS x1.2).1 = n1 at *
      refine den_loop (fun xs => ∃ (acc : List Evt) (z : Int) (i : Nat), xs = [I64d n0, I64d n1, evsD acc, I64d z, I64d i] ∧ i ≤ p.length ∧ acc.length = i ∧ (∀ x ∈ acc, EvT x) ∧ decL p = (match decL (p.drop i) with | .ok r => .ok (acc ++ r) | .error e => .error e)) (fun xs => p.length - (xs.getD 4 default).toI.toNat) ⟨[], 0, 0, rfl, by omega, rfl, (fun x hx => by cases hx), by rw [List.drop_zero]; cases decL p <;> rfl⟩ ?_
      simp only [AllSh]
      intro y0 _ _ y1 _ _ _ _ zz _ _ n _ _ ⟨acc, _, i, hq, hi, hal, haT, hd⟩
      simp only [List.cons.injEq, D.int.injEq, D.lst.injEq, true_and, and_true] at hq
      obtain ⟨rfl, rfl, rfl, rfl, rfl⟩ := hq
      (try simp only [List.cons_append, List.nil_append])
      refine den_ite (fun k => ?_) (fun k => ?_)
      · simp only [E.den, D.toI, D.toB, D.toL, D.toS, D.len, D.mapL, flatD, dE] at k
        have hi' : i < p.length := by omega
        have hg := getD_map (g := bD) [] hi'
        have hm := hpx2 _ (mem_getD [] hi')
        have hdf := decS_facts hm.1 hm.2
        rw [drop_get [] hi', decL] at hd
        have hw : IntKind.wrap .i64 ((i : Int) + 1) = ((i + 1 : Nat) : Int) := by rw [wrap_i64 (by omega) (by omega)]; omega
        refine den_ev (evs_ob (by simp only [E.den, D.toI, D.toB, D.toL, D.toS, D.len, D.mapL, flatD, dE]; omega) (evs_ob (by simp only [E.den, D.toI, D.toB, D.toL, D.toS, D.len, D.mapL, flatD, dE]; omega) (evs_nil ?_)))
        refine den_cal (evL (decS (p.getD i [])).1 ++ [I64d (decS (p.getD i [])).2]) rfl (decode_gen (p.getD i []) hm.1 hm.2) (by simp only [E.den, D.toI, D.toB, D.toL, D.toS, D.len, D.mapL, flatD, dE, hg]) rfl ?_
        (try simp only [List.cons_append, List.nil_append])
        refine den_ite (fun k2 => den_ret ?_) (fun k2 => ?_)
        · simp only [E.den, D.toI, D.toB, D.toL, D.toS, D.len, D.mapL, flatD, dE] at k2
          rw [if_pos k2] at hd
          rw [hLD, hd]
          rfl
        · simp only [E.den, D.toI, D.toB, D.toL, D.toS, D.len, D.mapL, flatD, dE] at k2
          rw [if_neg (fun c => c k2)] at hd
          refine den_ev (evs_ob (by simp only [E.den, D.toI, D.toB, D.toL, D.toS, D.len, D.mapL, flatD, dE]; omega) (evs_nil ?_))
          refine den_back rfl ⟨acc ++ [(decS (p.getD i [])).1], zz, i + 1, ?_, by omega, by rw [List.length_append, hal]; rfl, fun x hx => ?_, ?_⟩ (by simp only []; simp only [E.den, D.toI, D.toB, D.toL, D.toS, D.len, D.mapL, flatD, dE]; rw [hw]; omega)
          · simp only [E.den, D.toI, D.toB, D.toL, D.toS, D.len, D.mapL, flatD, dE]
            rw [hw]
            simp
          · rcases List.mem_append.1 hx with hx | hx
            · exact haT x hx
            · rw [List.mem_singleton.1 hx]; exact hdf.1
          · rw [hd]
            cases decL (p.drop (i + 1)) <;> simp
      · simp only [E.den, D.toI, D.toB, D.toL, D.toS, D.len, D.mapL, flatD, dE] at k
        have : i = p.length := by omega
        subst this
        rw [List.drop_length] at hd
        simp only [decL, List.append_nil] at hd
        rw [hd] at hLD
        simp only [] at hLD
        refine den_cal [I64d (ovS ⟨y0, acc, y1⟩)] rfl (ovalid_fn ⟨y0, acc, y1⟩ ⟨i0, i1, by simp only [hal]; omega, haT⟩) rfl rfl ?_
        (try simp only [List.cons_append, List.nil_append])
        refine den_ite (fun k2 => den_ret ?_) (fun k2 => den_ret ?_)
        · simp only [E.den, D.toI, D.toB, D.toL, D.toS, D.len, D.mapL, flatD, dE] at k2
          rw [hLD, if_neg k2]
          rfl
        · simp only [E.den, D.toI, D.toB, D.toL, D.toS, D.len, D.mapL, flatD, dE] at k2
          rw [hLD, if_pos k2]
          rfl
set_option maxHeartbeats 1000000 in
theorem rload_gen (b : List Int) (hb : isB b) (hl : b.length ≤ 1000) : Fun Try.prog [] 26 [tY] [bD b] [tO, tI] (.ok [obD (loadS b).1, I64d (loadS b).2]) := by
  refine rload_ent _ _ ?_
  show vcrload.den _ _ _ _ _
  unfold vcrload
  have ht := rtake_fn b hb (by omega)
  cases hT : takeF b with
  | error e =>
    rw [hT] at ht
    have he := tfS_err hT
    refine den_cal [.lst [], I64d e] rfl ht rfl rfl ?_
    (try simp only [List.cons_append, List.nil_append])
    refine den_t (by simp only [E.den, D.toI, D.toB, D.toL, D.toS, D.len, D.mapL, flatD, dE]; exact he) (den_ret ?_)
    have : loadS b = (ob0, e) := by unfold loadS; rw [hT]
    rw [this]
    rfl
  | ok l =>
    rw [hT] at ht
    obtain ⟨hS, _⟩ := take_sml hb hl hT
    have hLS : loadS b = loadF l := by unfold loadS; rw [hT]
    refine den_cal [fsD l, I64d 0] rfl ht rfl rfl ?_
    (try simp only [List.cons_append, List.nil_append])
    refine den_f rfl ?_
    refine den_ite (fun h => den_ret ?_) (fun h => ?_)
    · simp only [E.den, D.toI, D.toB, D.toL, D.toS, D.len, D.mapL, flatD, dE] at h
      have : loadF l = (ob0, 5) := by
        unfold loadF
        split
        · simp at h
        · rfl
      rw [hLS, this]
      rfl
    simp only [E.den, D.toI, D.toB, D.toL, D.toS, D.len, D.mapL, flatD, dE] at h
    obtain ⟨x0, x1, x2, rfl⟩ : ∃ x0 x1 x2, l = [x0, x1, x2] := by
      match l, h with
      | [a, b, c], _ => exact ⟨a, b, c, rfl⟩
      | [], h => simp at h
      | [a], h => simp at h
      | [a, b], h => simp at h
      | a :: b :: c :: d :: m, h => simp at h; omega
    have hLT : loadS b = loadT x0 x1 x2 := hLS
    clear hLS h
    have m0 := hS.2 x0 (by simp)
    have m1 := hS.2 x1 (by simp)
    have m2 := hS.2 x2 (by simp)
    have z0 : (0 : Int).toNat = 0 := rfl
    have z1 : (1 : Int).toNat = 1 := rfl
    have z2 : (2 : Int).toNat = 2 := rfl
    have hBad : (x0.1 ≠ 1 ∨ x1.1 ≠ 2 ∨ x2.1 ≠ 3) → FR.ok [.rc [I64d 0, .lst [], I64d 0], I64d 5] = FR.ok [obD (loadS b).1, I64d (loadS b).2] := fun h => by
      rw [hLT]; unfold loadT; rw [if_pos h]; rfl
    refine den_ev (evs_ob rfl (evs_nil ?_))
    refine den_ite (fun h0 => den_ret (hBad (.inl (by simp only [E.den, D.toI, D.toB, D.toL, D.toS, D.len, D.mapL, flatD, dE, z0] at h0; exact h0)))) (fun h0 => ?_)
    simp only [E.den, D.toI, D.toB, D.toL, D.toS, D.len, D.mapL, flatD, dE, z0] at h0
    refine den_ev (evs_ob rfl (evs_nil ?_))
    refine den_ite (fun h1 => den_ret (hBad (.inr (.inl (by simp only [E.den, D.toI, D.toB, D.toL, D.toS, D.len, D.mapL, flatD, dE, z1] at h1; exact h1))))) (fun h1 => ?_)
    simp only [E.den, D.toI, D.toB, D.toL, D.toS, D.len, D.mapL, flatD, dE, z1] at h1
    refine den_ev (evs_ob rfl (evs_nil ?_))
    refine den_ite (fun h2 => den_ret (hBad (.inr (.inr (by simp only [E.den, D.toI, D.toB, D.toL, D.toS, D.len, D.mapL, flatD, dE, z2] at h2; exact h2))))) (fun h2 => ?_)
    simp only [E.den, D.toI, D.toB, D.toL, D.toS, D.len, D.mapL, flatD, dE, z2] at h2
    have hok : ¬ (x0.1 ≠ 1 ∨ x1.1 ≠ 2 ∨ x2.1 ≠ 3) := by omega
    refine den_ev (evs_ob rfl (evs_nil ?_))
    refine den_cal [I64d (takeIntS x0.2).1, I64d (takeIntS x0.2).2] rfl (rtakeint_fn x0.2 m0.1 (by omega)) rfl rfl ?_
    (try simp only [List.cons_append, List.nil_append])
    refine den_ite (fun h3 => den_ret ?_) (fun h3 => ?_)
    · simp only [E.den, D.toI, D.toB, D.toL, D.toS, D.len, D.mapL, flatD, dE] at h3
      rw [hLT]
      unfold loadT
      rw [if_neg hok, if_pos h3]
      rfl
    simp only [E.den, D.toI, D.toB, D.toL, D.toS, D.len, D.mapL, flatD, dE] at h3
    refine den_ev (evs_ob rfl (evs_nil ?_))
    refine den_cal [I64d (takeIntS x1.2).1, I64d (takeIntS x1.2).2] rfl (rtakeint_fn x1.2 m1.1 (by omega)) rfl rfl ?_
    (try simp only [List.cons_append, List.nil_append])
    refine den_ite (fun h4 => den_ret ?_) (fun h4 => ?_)
    · simp only [E.den, D.toI, D.toB, D.toL, D.toS, D.len, D.mapL, flatD, dE] at h4
      rw [hLT]
      unfold loadT
      rw [if_neg hok, if_neg (fun c => c h3), if_pos h4]
      rfl
    simp only [E.den, D.toI, D.toB, D.toL, D.toS, D.len, D.mapL, flatD, dE] at h4
    have i0 := (tiO_some m0.1 (show tiO x0.2 = some _ by unfold tiO; rw [if_pos h3])).2
    have i1 := (tiO_some m1.1 (show tiO x1.2 = some _ by unfold tiO; rw [if_pos h4])).2
    refine den_ev (evs_ob rfl (evs_nil ?_))
    have hl7 := rtakel_fn x2.2 m2.1 (by omega)
    cases hTL : takeListS x2.2 with
    | error e =>
      rw [hTL] at hl7
      have he := tlS_err hTL
      refine den_cal [.lst [], I64d e] rfl hl7 rfl rfl ?_
      (try simp only [List.cons_append, List.nil_append])
      refine den_t (by simp only [E.den, D.toI, D.toB, D.toL, D.toS, D.len, D.mapL, flatD, dE]; exact he) (den_ret ?_)
      rw [hLT]
      unfold loadT
      rw [if_neg hok, if_neg (fun c => c h3), if_neg (fun c => c h4), hTL]
      rfl
    | ok p =>
      rw [hTL] at hl7
      obtain ⟨_, h256, hpx⟩ := put_takeList m2.1 hTL
      have hpx2 : ∀ d ∈ p, isB d ∧ d.length ≤ 1000 := fun d hd => ⟨(hpx d hd).1, by have := (hpx d hd).2; have := m2.2; omega⟩
      have hLD : loadS b = match decL p with
          | .error e => (ob0, e)
          | .ok its => if ovS ⟨(takeIntS x0.2).1, its, (takeIntS x1.2).1⟩ = 0 then (⟨(takeIntS x0.2).1, its, (takeIntS x1.2).1⟩, 0) else (ob0, ovS ⟨(takeIntS x0.2).1, its, (takeIntS x1.2).1⟩) := by
        rw [hLT]
        unfold loadT
        rw [if_neg hok, if_neg (fun c => c h3), if_neg (fun c => c h4), hTL]
      refine den_cal [bbD p, I64d 0] rfl hl7 rfl rfl ?_
      (try simp only [List.cons_append, List.nil_append])
      refine den_f rfl ?_
      generalize (takeIntS x0.2).1 = n0 at *
      generalize (takeIntS x1.2).1 = n1 at *
      refine den_loop (fun xs => ∃ (acc : List Evt) (z : Int) (i : Nat), xs = [I64d n0, I64d n1, evsD acc, I64d z, I64d i] ∧ i ≤ p.length ∧ acc.length = i ∧ (∀ x ∈ acc, EvT x) ∧ decL p = (match decL (p.drop i) with | .ok r => .ok (acc ++ r) | .error e => .error e)) (fun xs => p.length - (xs.getD 4 default).toI.toNat) ⟨[], 0, 0, rfl, by omega, rfl, (fun x hx => by cases hx), by rw [List.drop_zero]; cases decL p <;> rfl⟩ ?_
      simp only [AllSh]
      intro y0 _ _ y1 _ _ _ _ zz _ _ n _ _ ⟨acc, _, i, hq, hi, hal, haT, hd⟩
      simp only [List.cons.injEq, D.int.injEq, D.lst.injEq, true_and, and_true] at hq
      obtain ⟨rfl, rfl, rfl, rfl, rfl⟩ := hq
      (try simp only [List.cons_append, List.nil_append])
      refine den_ite (fun k => ?_) (fun k => ?_)
      · simp only [E.den, D.toI, D.toB, D.toL, D.toS, D.len, D.mapL, flatD, dE] at k
        have hi' : i < p.length := by omega
        have hg := getD_map (g := bD) [] hi'
        have hm := hpx2 _ (mem_getD [] hi')
        have hdf := decS_facts hm.1 hm.2
        rw [drop_get [] hi', decL] at hd
        have hw : IntKind.wrap .i64 ((i : Int) + 1) = ((i + 1 : Nat) : Int) := by rw [wrap_i64 (by omega) (by omega)]; omega
        refine den_ev (evs_ob (by simp only [E.den, D.toI, D.toB, D.toL, D.toS, D.len, D.mapL, flatD, dE]; omega) (evs_ob (by simp only [E.den, D.toI, D.toB, D.toL, D.toS, D.len, D.mapL, flatD, dE]; omega) (evs_nil ?_)))
        refine den_cal (evL (decS (p.getD i [])).1 ++ [I64d (decS (p.getD i [])).2]) rfl (rdecode_gen (p.getD i []) hm.1 hm.2) (by simp only [E.den, D.toI, D.toB, D.toL, D.toS, D.len, D.mapL, flatD, dE, hg]) rfl ?_
        (try simp only [List.cons_append, List.nil_append])
        refine den_ite (fun k2 => den_ret ?_) (fun k2 => ?_)
        · simp only [E.den, D.toI, D.toB, D.toL, D.toS, D.len, D.mapL, flatD, dE] at k2
          rw [if_pos k2] at hd
          rw [hLD, hd]
          rfl
        · simp only [E.den, D.toI, D.toB, D.toL, D.toS, D.len, D.mapL, flatD, dE] at k2
          rw [if_neg (fun c => c k2)] at hd
          refine den_ev (evs_ob (by simp only [E.den, D.toI, D.toB, D.toL, D.toS, D.len, D.mapL, flatD, dE]; omega) (evs_nil ?_))
          refine den_back rfl ⟨acc ++ [(decS (p.getD i [])).1], zz, i + 1, ?_, by omega, by rw [List.length_append, hal]; rfl, fun x hx => ?_, ?_⟩ (by simp only []; simp only [E.den, D.toI, D.toB, D.toL, D.toS, D.len, D.mapL, flatD, dE]; rw [hw]; omega)
          · simp only [E.den, D.toI, D.toB, D.toL, D.toS, D.len, D.mapL, flatD, dE]
            rw [hw]
            simp
          · rcases List.mem_append.1 hx with hx | hx
            · exact haT x hx
            · rw [List.mem_singleton.1 hx]; exact hdf.1
          · rw [hd]
            cases decL (p.drop (i + 1)) <;> simp
      · simp only [E.den, D.toI, D.toB, D.toL, D.toS, D.len, D.mapL, flatD, dE] at k
        have : i = p.length := by omega
        subst this
        rw [List.drop_length] at hd
        simp only [decL, List.append_nil] at hd
        rw [hd] at hLD
        simp only [] at hLD
        refine den_cal [I64d (ovS ⟨y0, acc, y1⟩)] rfl (rovalid_fn ⟨y0, acc, y1⟩ ⟨i0, i1, by simp only [hal]; omega, haT⟩) rfl rfl ?_
        (try simp only [List.cons_append, List.nil_append])
        refine den_ite (fun k2 => den_ret ?_) (fun k2 => den_ret ?_)
        · simp only [E.den, D.toI, D.toB, D.toL, D.toS, D.len, D.mapL, flatD, dE] at k2
          rw [hLD, if_neg k2]
          rfl
        · simp only [E.den, D.toI, D.toB, D.toL, D.toS, D.len, D.mapL, flatD, dE] at k2
          rw [hLD, if_pos k2]
          rfl
theorem save_gen (o : Ob) (ho : ObT o) (hl : o.it.length ≤ 256) (hsd : ovS o = 0 → ∀ x ∈ saveF o, x.2.length ≤ 1000000) : Fun Try.prog [] 23 [tO] [obD o] [tY, tI] (.ok [bD (if ovS o = 0 then saveB o else []), I64d (ovS o)]) := by
  refine save_ent _ _ ?_
  show vcsave.den _ _ _ _ _
  unfold vcsave
  refine den_cal [I64d (ovS o)] rfl (ovalid_fn o ho) rfl rfl ?_
  (try simp only [List.cons_append, List.nil_append])
  refine den_ite (fun h => den_ret ?_) (fun h => ?_)
  · simp only [E.den, D.toI, D.toB, D.toL, D.toS, D.len, D.mapL, flatD, dE] at h
    simp only [E.den, D.toI, D.toB, D.toL, D.toS, D.len, D.mapL, flatD, dE]
    rw [if_neg h]
    rfl
  simp only [E.den, D.toI, D.toB, D.toL, D.toS, D.len, D.mapL, flatD, dE] at h
  rw [if_pos h, h]
  have hv := (ov_ok h).it
  refine den_ev (evs_ob (by simp only [E.den, D.toI, D.toB, D.toL, D.toS, D.len, D.mapL, flatD, dE]; omega) (evs_ob (by simp only [E.den, D.toI, D.toB, D.toL, D.toS, D.len, D.mapL, flatD, dE]; omega) (evs_nil ?_)))
  refine den_loop (fun xs => ∃ (s : List D) (z : Int) (i : Nat), xs = [bbD ((o.it.take i).map byE), .lst s, I64d z, I64d i] ∧ i ≤ o.it.length) (fun xs => o.it.length - (xs.getD 3 default).toI.toNat) ⟨[], 0, 0, rfl, by omega⟩ ?_
  simp only [AllSh]
  intro _ _ ss _ zz _ _ n _ _ ⟨_, _, i, hq, hi⟩
  simp only [List.cons.injEq, D.int.injEq, D.lst.injEq, true_and, and_true] at hq
  obtain ⟨rfl, rfl, rfl, rfl⟩ := hq
  (try simp only [List.cons_append, List.nil_append])
  refine den_ite (fun k => ?_) (fun k => ?_)
  · simp only [E.den, D.toI, D.toB, D.toL, D.toS, D.len, D.mapL, flatD, dE] at k
    have hi' : i < o.it.length := by omega
    have hg := getD_map (g := evD) ev0 hi'
    have hm := mem_getD ev0 hi'
    have hvi := hv _ hm
    have hw : IntKind.wrap .i64 ((i : Int) + 1) = ((i + 1 : Nat) : Int) := by rw [wrap_i64 (by omega) (by omega)]; omega
    refine den_ev (evs_ob (by simp only [E.den, D.toI, D.toB, D.toL, D.toS, D.len, D.mapL, flatD, dE]; omega) (evs_ob (by simp only [E.den, D.toI, D.toB, D.toL, D.toS, D.len, D.mapL, flatD, dE]; omega) (evs_nil ?_)))
    refine den_cal [bD (byE (o.it.getD i ev0)), I64d 0] rfl (fun_as (encode_fn (o.it.getD i ev0) (ho.it _ hm)) (by rw [if_pos hvi, hvi] <;> rfl)) (by simp only [E.den, D.toI, D.toB, D.toL, D.toS, D.len, D.mapL, flatD, dE, hg]) rfl ?_
    (try simp only [List.cons_append, List.nil_append])
    refine den_f rfl ?_
    refine den_ev (evs_ob (by simp only [E.den, D.toI, D.toB, D.toL, D.toS, D.len, D.mapL, flatD, dE]; simp only [List.length_take]; omega) (evs_nil ?_))
    refine den_back rfl ⟨ss, zz, i + 1, ?_, by omega⟩ (by simp only []; simp only [E.den, D.toI, D.toB, D.toL, D.toS, D.len, D.mapL, flatD, dE]; rw [hw]; omega)
    simp only [E.den, D.toI, D.toB, D.toL, D.toS, D.len, D.mapL, flatD, dE]
    rw [hw, take_get ev0 hi']
    simp
  · simp only [E.den, D.toI, D.toB, D.toL, D.toS, D.len, D.mapL, flatD, dE] at k
    have : i = o.it.length := by omega
    subst this
    rw [List.take_length]
    have hp := putl_fn (o.it.map byE) (by rw [List.length_map]; omega) (fun b hb => by have := map_len hv b hb; omega)
    rw [putListS_in (by rw [List.length_map]; omega)] at hp
    refine den_cal [bD (putL (o.it.map byE)), I64d 0] rfl hp rfl rfl ?_
    (try simp only [List.cons_append, List.nil_append])
    refine den_f rfl ?_
    have hpf := put_fn (saveF o) (by simp [saveF]) (hsd h)
    rw [saveB_put] at hpf
    refine den_ev (evs_call [bD (putS o.rm)] rfl (putint_fn o.rm ho.rm) rfl rfl (evs_call [bD (putS o.lo)] rfl (putint_fn o.lo ho.lo) rfl rfl (evs_call [bD (saveB o), I64d 0] rfl hpf rfl rfl (evs_nil (den_ret rfl)))))
theorem load_facts {b : List Int} (hb : isB b) (hl : b.length ≤ 1000) (h : (loadS b).2 = 0) : ObT (loadS b).1 ∧ ovS (loadS b).1 = 0 ∧ saveB (loadS b).1 = b ∧ (loadS b).1.it.length ≤ 256 ∧ ∀ x ∈ saveF (loadS b).1, x.2.length ≤ 1000000 := by
  unfold loadS at h ⊢
  cases hT : takeF b with
  | error e => rw [hT] at h; exact absurd h (tfS_err hT)
  | ok l =>
    rw [hT] at h
    simp only [] at h ⊢
    obtain ⟨hS, hP⟩ := take_sml hb hl hT
    unfold loadF at h ⊢
    split at h
    rotate_left
    · cases h
    rename_i x0 x1 x2
    have m0 := hS.2 x0 (by simp)
    have m1 := hS.2 x1 (by simp)
    have m2 := hS.2 x2 (by simp)
    (try simp only [])
    unfold loadT at h ⊢
    split at h
    · cases h
    rename_i hok
    split at h
    · rename_i h3; exact absurd h h3
    rename_i h3
    split at h
    · rename_i h4; exact absurd h h4
    rename_i h4
    have e0 := tiO_some m0.1 (show tiO x0.2 = some _ by unfold tiO; rw [if_pos (Decidable.not_not.1 h3)])
    have e1 := tiO_some m1.1 (show tiO x1.2 = some _ by unfold tiO; rw [if_pos (Decidable.not_not.1 h4)])
    rw [if_neg hok, if_neg h3, if_neg h4]
    cases hTL : takeListS x2.2 with
    | error e => rw [hTL] at h; exact absurd h (tlS_err hTL)
    | ok p =>
      rw [hTL] at h
      simp only [] at h ⊢
      obtain ⟨hpl, h256, hpx⟩ := put_takeList m2.1 hTL
      cases hd : decL p with
      | error e => rw [hd] at h; exact absurd h (decL_err hd)
      | ok its =>
        rw [hd] at h
        simp only [] at h ⊢
        obtain ⟨g1, g2, g3⟩ := decL_facts (fun d hd => ⟨(hpx d hd).1, by have := (hpx d hd).2; have := m2.2; omega⟩) hd
        split at h
        rotate_left
        · rename_i hv; exact absurd h hv
        rename_i hv
        rw [if_pos hv]
        have hsF : saveF ⟨(takeIntS x0.2).1, its, (takeIntS x1.2).1⟩ = [x0, x1, x2] := by
          unfold saveF
          simp only []
          rw [← e0.1, ← e1.1, g1, hpl]
          have t0 : x0.1 = 1 := by omega
          have t1 : x1.1 = 2 := by omega
          have t2 : x2.1 = 3 := by omega
          rw [← t0, ← t1, ← t2]
        refine ⟨⟨e0.2, e1.2, by simp only [g3]; omega, fun e he => (g2 e he).1⟩, hv, ?_, by simp only [g3]; omega, ?_⟩
        · have h1 := saveB_put ⟨(takeIntS x0.2).1, its, (takeIntS x1.2).1⟩
          rw [hsF, putF_in hS.1, hP] at h1
          simp only [Except.ok.injEq] at h1
          exact h1.symm
        · rw [hsF]
          intro x hx
          have := (hS.2 x hx).2
          omega
theorem load_T {b : List Int} (hb : isB b) (hl : b.length ≤ 1000) : ObT (loadS b).1 := by
  by_cases h : (loadS b).2 = 0
  · exact (load_facts hb hl h).1
  · have h0 : (loadS b).1 = ob0 := by
      unfold loadS at h ⊢
      cases hT : takeF b with
      | error e => rfl
      | ok l =>
        rw [hT] at h
        simp only [] at h ⊢
        unfold loadF at h ⊢
        split
        · unfold loadT at h ⊢
          split
          · rfl
          split
          · rfl
          split
          · rfl
          rename_i q1 q2 q3
          simp only [] at h
          rw [if_neg q1, if_neg q2, if_neg q3] at h
          split
          · rfl
          · rename_i p hp
            rw [hp] at h
            simp only [] at h
            split
            · rfl
            · rename_i its hi
              rw [hi] at h
              simp only [] at h
              split
              · rename_i hv; rw [if_pos hv] at h; exact absurd rfl h
              · rfl
        · rfl
    rw [h0]
    exact ⟨by unfold inI; decide, by unfold inI; decide, by decide, fun x hx => by cases hx⟩
end Go.Proofs.Ytmkkijgnlohieaa.O31d
set_option maxRecDepth 100000
set_option linter.unusedSimpArgs false
set_option linter.unusedVariables false
namespace Go.Proofs.Ytmkkijgnlohieaa
open Go.Proofs.Ytmkkijgnlohieaa.Sy Go.Proofs.Ytmkkijgnlohieaa.L7 Go.Proofs.Ytmkkijgnlohieaa.Id Go.Proofs.Ytmkkijgnlohieaa.R26 Go.Proofs.Ytmkkijgnlohieaa.E30 Go.Proofs.Ytmkkijgnlohieaa.O31 Go.Proofs.Ytmkkijgnlohieaa.O31x Go.Proofs.Ytmkkijgnlohieaa.O31l Go.Proofs.Ytmkkijgnlohieaa.O31d Go.RowKit Go.WideShapes Go.ChangeShapes Go.ChangeAt

set_option maxHeartbeats 4000000 in
theorem law_all (xs : List D) (h : TypTs [tY] xs) : Fun Try.prog [] 7 [tY] xs [.c .bool] (.ok [.bool true]) := by
  obtain ⟨d, _, rfl, h0, rfl⟩ := h
  obtain ⟨b, rfl, _, hb⟩ := typ_bytes h0
  have hb : isB b := hb
  refine lOutboxLoads_ent _ _ ?_
  show vclOutboxLoads.den _ _ _ _ _
  unfold vclOutboxLoads
  refine den_ite (fun h1 => ?_) (fun h1 => ?_)
  · simp only [E.den, D.toI, D.toB, D.toL, D.toS, D.len, D.mapL, flatD, dE, str_eq, emp_iff] at h1
    refine den_cal [.bool (true)] rfl (ex_fn) rfl rfl ?_
    refine den_ret ?_
    rfl
  · simp only [E.den, D.toI, D.toB, D.toL, D.toS, D.len, D.mapL, flatD, dE, str_eq, emp_iff] at h1
    refine den_cal [I64d ((loadS b).1.rm), evsD ((loadS b).1.it), I64d ((loadS b).1.lo), I64d ((loadS b).2)] rfl (load_gen b hb (by omega)) rfl rfl ?_
    refine den_cal [I64d ((loadS b).1.rm), evsD ((loadS b).1.it), I64d ((loadS b).1.lo), I64d ((loadS b).2)] rfl (rload_gen b hb (by omega)) rfl rfl ?_
    refine den_cal [.bool (true)] rfl (fun_as (osame_fn (loadS b).1 (loadS b).1 (load_T hb (by omega)) (load_T hb (by omega))) (by rw [decide_eq_true rfl] <;> rfl)) rfl rfl ?_
    refine den_t (rfl) ?_
    refine den_f (by simp only [E.den, D.toI, D.toB, D.toL, D.toS, D.len, D.mapL, flatD, dE]) ?_
    refine den_ite (fun h2 => ?_) (fun h2 => ?_)
    · simp only [E.den, D.toI, D.toB, D.toL, D.toS, D.len, D.mapL, flatD, dE, str_eq, emp_iff] at h2
      refine den_cal [.bool (true)] rfl (ex_fn) rfl rfl ?_
      refine den_ret ?_
      rfl
    · simp only [E.den, D.toI, D.toB, D.toL, D.toS, D.len, D.mapL, flatD, dE, str_eq, emp_iff] at h2; have F := load_facts hb (by omega) h2
      refine den_cal [bD (b), I64d (0)] rfl (fun_as (save_gen (loadS b).1 F.1 F.2.2.2.1 (fun _ => F.2.2.2.2)) (by rw [if_pos F.2.1, F.2.2.1, F.2.1] <;> rfl)) rfl rfl ?_
      refine den_t (by simp only [E.den, D.toI, D.toB, D.toL, D.toS, D.len, D.mapL, flatD, dE]) ?_
      refine den_t (rfl) ?_
      refine den_cal [.bool (true)] rfl (ex_fn) rfl rfl ?_
      refine den_ret ?_
      rfl

set_option maxRecDepth 100000 in
theorem outboxLoads_lifted (os : Os) (started : os.Started) (H : Type) (enc : TypeId × Value → H) :
    ReturnsInHanded {} Try.checked os 7 .any (Rows.outboxLoadsSpec.pre6 enc Try.prog Try.f7 Rows.outboxLoadsRow.domain false) (Rows.outboxLoadsSpec.post enc Try.prog Try.f7 false true false false) := by
  refine returnsInHanded_of_change (C := Try.checked) own started (by kernel_rfl) Try.func7
    (ChangeSpec.witness6 (enc := enc) (C := Try.checked) false ⟨#[], #[.slice none 0 0], []⟩ 8 (by kernel_rfl) (by kernel_rfl) (by kernel_rfl) (by kernel_rfl)) ?_
  intro W base args ds gs before hval0 hW hcnd _
  have hval : ∀ (j : Nat) t v, Try.f7.params[j]? = some t → args[j]? = some v → Value.okWide Try.prog W .any base t v := hval0
  obtain ⟨q, q', hA0, _, _, _, _⟩ := id hW
  have hA : DataW.TrodAll enc Try.prog W 0 (fun _ => true) true Try.f7.params.toList args.toList ds q := hA0
  have walk := law_walk (P := Try.prog) (f := 7) (fn := Try.f7) (fun p hp => by cases hp) (Ts := [tY]) (by kernel_rfl) law_all hval hA
  rw [Try.params7] at hA
  obtain ⟨v0, vs0, d0, ds0, p0, q0, hargs0, rfl, rfl, h0, r0⟩ := trodAll_cons hA
  obtain ⟨rfl, rfl, rfl⟩ := trodAll_nil r0
  refine walk.mono fun e W' ⟨he, hb⟩ => ?_
  subst he
  exact ⟨_, rfl, law_post (tb := 4) laidOut rfl (by kernel_rfl) rfl Try.underlying4 hW rfl hb⟩

theorem outboxLoads_holds : Rows.OutboxLoadsSaid :=
  OpenClaim.holds_of_wide 7 Try.f7 rfl rfl rfl rfl rfl rfl rfl ⟨rfl, rfl, rfl, rfl, rfl⟩ rfl rfl rfl rfl rfl (by kernel_rfl) Try.func7 (by kernel_rfl)
    (of_decide_eq_true (by kernel_rfl)) (by unfold Func.isWrapper; first | (rw [if_pos (by decide +kernel)]; kernel_rfl) | (rw [if_neg (by decide +kernel)]; exact ⟨rfl, rfl⟩))
    (fun os started H enc _ => outboxLoads_lifted os started H enc)
#print axioms outboxLoads_holds
end Go.Proofs.Ytmkkijgnlohieaa
