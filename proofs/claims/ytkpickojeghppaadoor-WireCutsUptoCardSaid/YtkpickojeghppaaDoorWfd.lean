/- The walk of Feed (the server's). Conditions: what came and goes out is shorter than 2 to the 41. -/
import Derived.Test.YtkpickojeghppaaDoorWfeedw
namespace Go.Proofs.YtkpickojeghppaaDoor
open Go.RowKit
set_option maxRecDepth 20000 in
set_option maxHeartbeats 4000000 in
theorem feedStop_c (R : Nat) (vi vo vh : Value) (s : Sv) (pv : Value) (w : World) (hst : (s.closed || s.ending) = true) (h : SvX w R vi vo vh s) :
    Calls Tryd.prog 56 #[.pointer (some ⟨R, 0, none⟩), pv] w (SvPost R vi vo vh w s (.int .i64 0)) := by
  obtain ⟨⟨_, _, c2, c3, _⟩, _⟩ := h.sv.cells
  have H := Lib.hid h
  clear h
  cases hcl : s.closed with
  | true =>
    rw [hcl] at c2
    go_enter Tryd.func56, Tryd.ntmps56
    go_wp2
    go_ret
    exact svPost_same H.out.sv _
  | false =>
    have hen : s.ending = true := by rw [hcl] at hst; exact hst
    rw [hcl] at c2
    rw [hen] at c3
    go_enter Tryd.func56, Tryd.ntmps56
    go_wp2
    go_ret
    exact svPost_same H.out.sv _
theorem feedE_ok2 : ∀ (n : Nat) (s : Sv), s.Ok → s.inp.length ≤ 9223372036854770000 → (s.feedE n).1.Ok ∧ (s.feedE n).1.out.length * 24 ≤ 24 * s.out.length + 131072 * s.inp.length ∧ (s.feedE n).2 ≤ 284
  | 0, s, h, _ => ⟨h, by show s.out.length * 24 ≤ _; omega, Nat.zero_le _⟩
  | n + 1, s, h, hl => by
    rw [Sv.feedE]
    split
    · exact ⟨h, by show s.out.length * 24 ≤ _; omega, Nat.zero_le _⟩
    · cases hu : unpack s.inp with
      | bad e =>
        have := unpack_err _ _ hu
        simp only
        split
        · exact ⟨h, by show s.out.length * 24 ≤ _; omega, Nat.zero_le _⟩
        · exact ⟨h, by show s.out.length * 24 ≤ _; omega, by show e ≤ 284; omega⟩
      | ok m k =>
        obtain ⟨hm, hk, hkl⟩ := unpack_ok s.inp hl m k hu
        obtain ⟨a1, a2, a3, a4⟩ := take_ok { s with inp := s.inp.drop k } m ⟨h.bye, h.held, h.ids⟩ hm
        simp only
        have hl3 : (({ s with inp := s.inp.drop k } : Sv).take m).1.inp.length = s.inp.length - k := by rw [a3]; exact List.length_drop
        have ho : (({ s with inp := s.inp.drop k } : Sv).take m).1.out.length ≤ s.out.length + 131072 := a2
        split
        · obtain ⟨b1, b2, b3⟩ := feedE_ok2 n _ a1 (by omega)
          exact ⟨b1, by omega, b3⟩
        · exact ⟨a1, by omega, a4⟩
set_option maxRecDepth 20000 in
set_option maxHeartbeats 4000000 in
theorem svFeed_c (R : Nat) (vi vo vh : Value) (s : Sv) (hok : s.Ok) (pv : Value) (p : List UInt8) (w : World) (hp : Src Tryd.prog 1 28 pv p.length (bytesV p) w) (hroom : 24 * s.out.length + 131072 * (s.inp.length + p.length) ≤ 3298534883328) (h : SvX w R vi vo vh s) :
    Calls Tryd.prog 24 #[.pointer (some ⟨R, 0, none⟩), pv] w (SvPost R vi vo vh w (s.feed p) (.tuple #[])) := by
  have key : ∀ (s2 : Sv) (e : Nat), e ≤ 999999 → s2.out.length ≤ 274877906944 → Calls Tryd.prog 56 #[.pointer (some ⟨R, 0, none⟩), pv] w (SvPost R vi vo vh w s2 (.int .i64 (e : Int))) → Calls Tryd.prog 24 #[.pointer (some ⟨R, 0, none⟩), pv] w (SvPost R vi vo vh w (s2.failed e) (.tuple #[])) := by
    intro s2 e he hl hfe
    have HFE := Lib.hid hfe
    have H := Lib.hid h
    clear hfe h hp hok hroom
    go_enter Tryd.func24, Tryd.ntmps24
    go_wp2_with fail
    refine HFE.out.mono ?_; rintro e w1 ⟨vi1, vo1, vh1, rfl, h1, ht1, hn1⟩
    have HX1 := Lib.hid (H.out.of h1 ht1 hn1)
    have HT1 := Lib.hid ht1
    have HN1 := Lib.hid hn1
    clear h1 ht1 hn1
    go_wp2_with fail
    refine (fail_c R vi1 vo1 vh1 s2 _ he hl w1 HX1.out).mono ?_; rintro e w2 ⟨vi2, vo2, vh2, rfl, h2, ht2, hn2⟩
    have HF := Lib.hid (SvPost.seq HT1.out HN1.out ⟨vi2, vo2, vh2, rfl, h2, ht2, hn2⟩ : SvPost R vi vo vh w _ (.tuple #[]) _ w2)
    clear h2 ht2 hn2
    go_wp2
    go_end0
    exact HF.out
  by_cases hst : (s.closed || s.ending) = true
  · have := key s 0 (by omega) (by omega) (feedStop_c R vi vo vh s pv w hst h)
    have e : s.feed p = s.failed 0 := by unfold Sv.feed Sv.failed; rw [if_pos hst]; rfl
    rw [e]; exact this
  · have hcl : s.closed = false := by cases h : s.closed with | false => rfl | true => rw [h] at hst; exact absurd rfl hst
    have hen : s.ending = false := by cases h : s.ending with | false => rfl | true => rw [h, Bool.or_true] at hst; exact absurd rfl hst
    have e : s.feed p = (Sv.feedE ((s.inp ++ p).length + 1) { s with inp := s.inp ++ p }).1.failed (Sv.feedE ((s.inp ++ p).length + 1) { s with inp := s.inp ++ p }).2 := by
      unfold Sv.feed; rw [if_neg hst]; exact loop_eq _ _
    rw [e]
    have hb := feedE_ok2 ((s.inp ++ p).length + 1) { s with inp := s.inp ++ p } ⟨hok.bye, hok.held, hok.ids⟩ (by show (s.inp ++ p).length ≤ _; rw [List.length_append]; omega)
    obtain ⟨_, b2, b3⟩ := hb
    have b2' : (Sv.feedE ((s.inp ++ p).length + 1) { s with inp := s.inp ++ p }).1.out.length * 24 ≤ 24 * s.out.length + 131072 * (s.inp ++ p).length := b2
    rw [List.length_append] at b2'
    rw [List.length_append] at b3 ⊢
    exact key _ _ (by omega) (by omega) (by have := feed_c R vi vo vh s hok pv p w hp hroom hcl hen h; rw [List.length_append] at this; exact this)
end Go.Proofs.YtkpickojeghppaaDoor
