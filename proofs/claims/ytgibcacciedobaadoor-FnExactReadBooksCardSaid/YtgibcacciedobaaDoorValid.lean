/- A list of books is valid: the program's ValidBooks and the reference's. -/
import Derived.Test.YtgibcacciedobaaDoorSpecBook
namespace Go.Proofs.YtgibcacciedobaaDoor
open Go.RowKit Go.Proofs.YtgibcacciedobaaDoorW.PrintWords Go.Proofs.YtgibcacciedobaaDoorW.PrintMore
set_option linter.unusedVariables false
set_option linter.unusedSimpArgs false
set_option maxRecDepth 100000

def vBooks (L : List Bk) : Bool := decide (L.length ≤ 60) && L.all vBook
def OkL (L : List Bk) : Prop := ∀ b, b ∈ L → b.ok
theorem ValidBooks_c (A : Option Addr) (c : Nat) (L : List Bk) (w : World) (hL : kBk.C w A L.length L) :
    Calls Tryd.prog 50 #[.slice A L.length c] w (Ret w (.bool (vBooks L))) := by
  have HA := Aside0.mk (areAllBk_c A c L 46 #[] vBook w hL ⟨_, Tryd.func46, rfl, rfl⟩ (fun W _ x _ => ValidBook_c x W))
  have hm := Kd.C_max hL
  clear hL
  by_cases h : L.length ≤ 60
  · have HV := Aside0.mk (show vBooks L = L.all vBook by simp [vBooks, h])
    go_enter Tryd.func50, Tryd.ntmps50
    go_wp2_with (go_at_call 86; refine HA.out.mono ?_; rintro _ w1 ⟨rfl, hb1⟩)
    all_goals (go_ret; exact ⟨ret_bool HV.out.symm, hb1⟩)
  · have HV := Aside0.mk (show vBooks L = false by simp [vBooks, h])
    go_enter Tryd.func50, Tryd.ntmps50
    go_wp2
    all_goals (go_ret; exact ⟨ret_bool HV.out.symm, Below.refl _ _⟩)

theorem all_hit {α : Type} {L : List α} {p : α → Bool} {k : Nat} {x : α} (hx : L[k]? = some x) (hp : p x = false) : L.all p = false := by
  rw [Bool.eq_false_iff]
  intro h
  have h2 := List.all_eq_true.1 h x (mem_of hx)
  rw [hp] at h2
  cases h2
theorem all_end {α : Type} {L : List α} {p : α → Bool} {k : Nat} (h : ∀ x, x ∈ L.take k → p x = true) (hk : L.length ≤ k) : L.all p = true := by
  rw [List.take_of_length_le hk] at h
  exact List.all_eq_true.2 h
theorem all_next {α : Type} {L : List α} {p : α → Bool} {k : Nat} {x : α} (h : ∀ x, x ∈ L.take k → p x = true) (hx : L[k]? = some x) (hp : p x = true) : ∀ x, x ∈ L.take (k + 1) → p x = true := by
  intro y hy
  rw [take_snoc hx] at hy
  rcases List.mem_append.1 hy with hy | hy
  · exact h y hy
  · rw [List.mem_singleton.1 hy]; exact hp

theorem l01Ok_c (A : Option Addr) (c : Nat) (L : List Bk) (hok : OkL L) (w : World) (hL : kBk.C w A L.length L) :
    Calls Tryd.prog 48 #[.slice A L.length c] w (Ret w (.bool (vBooks L))) := by
  have hm := Kd.C_max hL
  have HL := Aside0.mk hL
  have HO := Aside0.mk hok
  clear hL hok
  go_enter Tryd.func48, Tryd.ntmps48
  go_wp2
  go_loopg [3] L.length (fun gk v wr => ∃ k : Nat, k + gk = L.length ∧ v = .int .i64 k ∧ Aside0 (∀ x, x ∈ L.take k → vBook x = true) ∧ Aside0 (Below w.heap.size w wr))
  case atStart => exact ⟨0, by omega, rfl, ⟨by simp⟩, ⟨Below.refl _ _⟩⟩
  case round =>
    obtain ⟨k, hk, rfl, hp, hb⟩ := hrel
    have HK := Aside0.mk hk
    by_cases hlt : k < L.length
    · obtain ⟨ad, b, rfl, hbk, ha⟩ := at_bk' (Kd.C_below HL.out hb.out) k (by omega)
      have HA := Aside0.mk (l01Book_c b (HO.out b (mem_of hbk.out)) _ _ ha)
      clear hk ha
      cases hvb : vBook b
      · have HV := Aside0.mk (all_hit hbk.out hvb)
        rw [hvb] at HA
        clear hvb
        go_wp2_with (go_at_call 43; refine HA.out.mono ?_; rintro _ w1 ⟨rfl, hb1⟩)
        all_goals (go_ret; exact ⟨ret_bool (by simp [vBooks, HV.out]), bstep hb.out hb1⟩)
      · have HV := Aside0.mk (all_next hp.out hbk.out hvb)
        rw [hvb] at HA
        clear hvb
        go_wp2_with (go_at_call 43; refine HA.out.mono ?_; rintro _ w1 ⟨rfl, hb1⟩)
        go_roundg (gk - 1)
        case measure => have := HK.out; omega
        case rel => exact ⟨k + 1, by have := HK.out; omega, by go_num, HV, ⟨bstep hb.out hb1⟩⟩
    · have HV := Aside0.mk (all_end hp.out (by omega))
      clear hk
      go_wp2
      all_goals (go_ret; exact ⟨ret_bool (by simp [vBooks, HV.out]; omega), hb.out⟩)
theorem vBooks_len {L : List Bk} (h : vBooks L = true) : L.length ≤ 60 := by
  unfold vBooks at h
  simp only [Bool.and_eq_true, decide_eq_true_eq] at h
  exact h.1
theorem ret_two {a b c d : Int} (h : a = c) (k : b = d) : Ending.returned (.tuple #[.int .i64 a, .int .i64 b]) = .returned (.tuple #[.int .i64 c, .int .i64 d]) := by rw [h, k]
theorem ret_three {a b c d e f : Int} (h : a = d) (k : b = e) (l : c = f) : Ending.returned (.tuple #[.int .i64 a, .int .i64 b, .int .i64 c]) = .returned (.tuple #[.int .i64 d, .int .i64 e, .int .i64 f]) := by rw [h, k, l]
end Go.Proofs.YtgibcacciedobaaDoor
