/- Two halls, the program's and the document's, apart in memory and alike in what they say: 'does' keeps them so, and returns true. -/
import Derived.Test.YtildlbmhdiknfaaHallE
set_option linter.unusedVariables false
namespace Go.Proofs.Ytildlbmhdiknfaa.Man
open Go.RowKit Go.Proofs.YtildlbmhdiknfaaW.PrintWords Go.Proofs.YtildlbmhdiknfaaW.PrintLast Go.Proofs.YtildlbmhdiknfaaW.PrintMore

theorem HallIs.own_lt {t : Nat} {w0 w : World} {g : Nat} {v : Value} {m : Int} {bs : List ByteArray} (h : HallIs t w0 w g v m bs) (k : Nat) (hk : v.ownBlock = some k) : k < w.heap.size := by
  obtain ⟨_, inner, ho, _⟩ := h.own
  exact Go.Proofs.YtildlbmhdiknfaaW.PrintWords.own_lt ho k hk
/-- Two halls, apart. -/
structure Two (w0 w : World) (g r : Nat) (v u : Value) (m : Int) (bs cs : List ByteArray) : Prop where
  h : HallIs 72 w0 w g v m bs
  d : HallIs 48 w0 w r u m cs
  ne : r ≠ g
  vr : v.ownBlock ≠ some r
  ug : u.ownBlock ≠ some g
  vu : ∀ k, v.ownBlock = some k → u.ownBlock ≠ some k
theorem Two.stepH {w0 w w' : World} {g r : Nat} {v v' u : Value} {m : Int} {bs bs' cs : List ByteArray} (T : Two w0 w g r v u m bs cs) (h : HallIs 72 w0 w' g v' m bs') (s : Steps w w' g v v') : Two w0 w' g r v' u m bs' cs := by
  refine ⟨h, T.d.apart s h.below T.ne (fun e => T.vr e.symm) T.ug (fun k hk e => T.vu k e.symm hk), T.ne, ?_, T.ug, ?_⟩
  · rcases s.new with e | ⟨b, e, hb⟩
    · rw [e]; exact T.vr
    · rw [e]
      intro e2
      have := T.d.lt
      injection e2 with e2
      omega
  · intro k hk hu
    rcases s.new with e | ⟨b, e, hb⟩
    · rw [e] at hk
      exact T.vu k hk hu
    · have := T.d.own_lt k hu
      rw [e] at hk
      injection hk with hk
      omega
theorem Two.stepD {w0 w w' : World} {g r : Nat} {v u u' : Value} {m : Int} {bs cs cs' : List ByteArray} (T : Two w0 w g r v u m bs cs) (d : HallIs 48 w0 w' r u' m cs') (s : Steps w w' r u u') : Two w0 w' g r v u' m bs cs' := by
  refine ⟨T.h.apart s d.below (fun e => T.ne e.symm) (fun e => T.ug e.symm) T.vr (fun k hk e => T.vu k hk e.symm), d, T.ne, T.vr, ?_, ?_⟩
  · rcases s.new with e | ⟨b, e, hb⟩
    · rw [e]; exact T.ug
    · rw [e]
      intro e2
      have := T.h.lt
      injection e2 with e2
      omega
  · intro k hk hu
    rcases s.new with e | ⟨b, e, hb⟩
    · rw [e] at hu
      exact T.vu k hk hu
    · have := T.h.own_lt k hk
      rw [e] at hu
      injection hu with hu
      omega
theorem HallIs.drawn {t : Nat} {w0 w w' : World} {g : Nat} {v : Value} {m : Int} {bs : List ByteArray} (h : HallIs t w0 w g v m bs) (hd : Drawn0 w w') : HallIs t w0 w' g v m bs := by
  obtain ⟨n, rfl⟩ := hd
  exact h.drewN n
theorem Two.drawn {w0 w w' : World} {g r : Nat} {v u : Value} {m : Int} {bs cs : List ByteArray} (T : Two w0 w g r v u m bs cs) (hd : Drawn0 w w') : Two w0 w' g r v u m bs cs := ⟨T.h.drawn hd, T.d.drawn hd, T.ne, T.vr, T.ug, T.vu⟩

theorem num_is (n : Int) (w : World) : Calls Try.prog 16 #[.int .i64 n] w fun e w' => e = .returned (.int .i64 n) ∧ w = w' := by
  go_enter Try.func16, Try.ntmps16
  go_wp2
  go_ret
  exact ⟨rfl, rfl⟩

/-- What 'does' leaves. -/
def Went (w0 w' : World) (g r : Nat) (m : Int) : Prop := ∃ v' u' bs', Two w0 w' g r v' u' m bs' bs'

set_option maxHeartbeats 4000000 in
set_option maxRecDepth 100000 in
theorem does_true (w0 w : World) (g r : Nat) (v u : Value) (m : Int) (bs : List ByteArray) (what k : Int) (s : ByteArray) (T : Two w0 w g r v u m bs bs) :
    Calls Try.prog 23 #[.pointer (some ⟨g, 0, none⟩), .pointer (some ⟨r, 0, none⟩), .int .i64 what, .int .i64 k, .string s] w fun e w' => e = .returned (.bool true) ∧ Went w0 w' g r m := by
  have TT := Lib.hid T
  clear T
  generalize ho : openF m bs = o
  generalize hi : inputF bs k s = i
  generalize ht : takeF bs k = t
  have HO := Lib.hid ho
  have HI := Lib.hid hi
  have HT := Lib.hid ht
  clear ho hi ht
  by_cases hb0 : Go.bits .and .i64 what 3 = 0
  · have hd0 : (Go.bits .and .i64 what 3 == 0) = true := by rw [hb0]; rfl
    clear hb0
    go_enter Try.func23, Try.ntmps23
    go_wp2_with fail
    refine (hall_Open w0 w g v m bs TT.out.h).mono ?_
    rintro e w1 ⟨v1, rfl, h1, s1⟩
    have T1 := Lib.hid (TT.out.stepH h1 s1)
    rw [HO.out] at T1 ⊢
    clear h1 s1
    go_wp2_with fail
    refine (doc_Open w0 w1 r u m bs T1.out.d).mono ?_
    rintro e w2 ⟨u1, rfl, h2, s2⟩
    have T2 := Lib.hid (T1.out.stepD h2 s2)
    rw [HO.out] at T2 ⊢
    clear h2 s2
    go_wp2_with fail
    refine (num_is _ _).mono ?_
    rintro e w3 ⟨rfl, rfl⟩
    go_wp2
    go_ret
    exact ⟨rfl, _, _, _, T2.out⟩
  have hd0 : (Go.bits .and .i64 what 3 == 0) = false := by simpa using hb0
  by_cases hb1 : Go.bits .and .i64 what 3 = 1
  · have hd1 : (Go.bits .and .i64 what 3 == 1) = true := by rw [hb1]; rfl
    clear hb0 hb1
    go_enter Try.func23, Try.ntmps23
    go_wp2_with fail
    refine (hall_Take w0 w g v m bs k TT.out.h).mono ?_
    rintro e w1 ⟨v1, rfl, h1, s1⟩
    have T1 := Lib.hid (TT.out.stepH h1 s1)
    rw [HT.out] at T1 ⊢
    clear h1 s1
    go_wp2_with fail
    refine (doc_Take w0 w1 r u m bs k T1.out.d).mono ?_
    rintro e w2 ⟨u1, rfl, h2, s2⟩
    have T2 := Lib.hid (T1.out.stepD h2 s2)
    rw [HT.out] at T2 ⊢
    clear h2 s2
    go_wp2
    go_ret
    exact ⟨rfl, _, _, _, T2.out⟩
  have hd1 : (Go.bits .and .i64 what 3 == 1) = false := by simpa using hb1
  clear hb0 hb1
  go_enter Try.func23, Try.ntmps23
  go_wp2_with fail
  refine (hall_Input w0 w g v m bs k s TT.out.h).mono ?_
  rintro e w1 ⟨v1, rfl, h1, s1⟩
  have T1 := Lib.hid (TT.out.stepH h1 s1)
  rw [HI.out] at T1 ⊢
  clear h1 s1
  go_wp2_with fail
  refine (num_is _ _).mono ?_
  rintro e w3 ⟨rfl, rfl⟩
  go_wp2_with fail
  refine (doc_Input w0 w1 r u m bs k s T1.out.d).mono ?_
  rintro e w2 ⟨u1, rfl, h2, s2⟩
  have T2 := Lib.hid (T1.out.stepD h2 s2)
  rw [HI.out] at T2 ⊢
  clear h2 s2
  go_wp2
  go_ret
  exact ⟨rfl, _, _, _, T2.out⟩
end Go.Proofs.Ytildlbmhdiknfaa.Man
