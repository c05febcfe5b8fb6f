/- The plain law of WirePuts. -/
import Derived.Test.YtgepgleagefmeaaP20Funs
import Derived.Test.YtgepgleagefmeaaAbsSums
import Derived.Test.YtgepgleagefmeaaP20LemmasWirePuts3
import Derived.Test.YtgepgleagefmeaaP20LemmasWirePuts2
namespace Go.Proofs.Try
open Go Go.Abs


theorem lit_i64 {x : Int} (h : (Lit.int .i64 x).wf = true) : I64 x := by
  simp [Lit.wf, IntKind.signed, IntKind.bits, IntKind.min, IntKind.max] at h
  exact ⟨by omega, by omega⟩
theorem W_i64 (n : Int) : I64 (W n) := by unfold I64 W; rw [IntKind.wrap_i64]; omega
def KeysIn (D : List Df) : Prop := ∀ d ∈ D, ∀ r ∈ d.2.1, I64 r.1 ∧ I64 r.2.1
theorem rowsAt_mem {D : List Df} {t : List Int} {r : Rw} (h : r ∈ rowsAt D t) : ∃ d ∈ D, r ∈ d.2.1 := by
  unfold rowsAt at h
  obtain ⟨d, hd, hr⟩ := List.mem_flatMap.1 h
  split at hr
  · exact ⟨d, hd, hr⟩
  · cases hr
theorem tidy_put {D : List Df} (g : Good D) (hk : KeysIn D) : PutOK (tidyL D) where
  len := Nat.le_trans (tidy_len D) g.len
  num := Nat.le_trans (tidy_num D) g.num
  dim d hd := by
    obtain ⟨t, ht, -, rfl⟩ := tidyL_mem.1 hd
    exact good_times g t ht
  time d hd n hn := by
    obtain ⟨t, ht, -, rfl⟩ := tidyL_mem.1 hd
    obtain ⟨e, he, rfl⟩ := List.mem_map.1 ht
    have h1 := (chk_any (g.chk e he)).2
    have h2 : bad n = false := by
      cases hb : bad n with
      | false => rfl
      | true => rw [List.any_eq_true.2 ⟨n, hn, hb⟩] at h1; cases h1
    have := bad_ok h2
    exact ⟨by omega, by omega⟩
  rows d hd r hr := by
    obtain ⟨t, ht, -, rfl⟩ := tidyL_mem.1 hd
    obtain ⟨p, hp, rfl⟩ := List.mem_map.1 hr
    have h1 := bag_keys (l := (rowsAt D t).map (sc 1)) hp
    rw [List.map_map] at h1
    obtain ⟨q, hq, hqe⟩ := List.mem_map.1 h1
    obtain ⟨e, he, hqm⟩ := rowsAt_mem hq
    obtain ⟨k1, k2⟩ := hk e he q hqm
    have hqe : kyOf q = p.1 := hqe
    have h2 := (bag_mem (bag0 ((rowsAt D t).map (sc 1))) p).1 hp
    rw [tot_lin p.1 _ (fun _ => 0) (show InR 0 from W_zero)] at h2
    refine ⟨?_, ?_, ?_⟩
    · show I64 p.1.1
      rw [← hqe]; exact k1
    · show I64 p.1.2.1
      rw [← hqe]; exact k2
    · show I64 p.2
      rw [← h2.2]; exact W_i64 _
theorem wirePuts {D : List Df} (h : D.length * 48 ≤ 140737488355328) (hk : KeysIn D) {n : Int} (hn : I64 n) : law_WirePuts (D, n, ()) = some (true, ()) := by
  have hnl := (numB_b8 hn).2
  unfold law_WirePuts wire_Put
  rw [tidy_eq h, wire_num_eq hn, ref_num_eq hn, ref_check_eq D]
  simp only [Option.bind_some]
  rw [bytes_same _ (by omega)]
  simp only [Option.bind_some, Bool.not_true, cond_false]
  by_cases h0 : dchk D = 0
  · have g := dchk_zero h0
    have p := tidy_put g hk
    have hb := bytesL_len (numsH_ok p).1
    have hl := (numsH_ok p).2
    rw [if_pos h0]
    simp only [bneF h0, cond_false, bneF rfl]
    rw [wire_bytes_eq p]
    simp only [Option.bind_some, beqT rfl, cond_true]
    rw [ref_tidy_eq g.fine]
    simp only [Option.bind_some]
    rw [ref_bytes_eq p]
    simp only [Option.bind_some]
    rw [bytes_same _ (by unfold wireB; simp only [List.length_append, List.length_cons, List.length_nil]; omega)]
    rfl
  · rw [if_neg h0]
    simp only [bneT h0, cond_true, Option.bind_some, beqT rfl]
    rfl
theorem wirePuts_law (x : ADen sp10.args) (wf : WfA sp10.args x) (h0 : List.length x.1 * 48 ≤ 140737488351232) : law_WirePuts x = some (true, ()) := by
  obtain ⟨D, n, ⟨⟩⟩ := x
  exact wirePuts (show D.length * 48 ≤ 140737488355328 from Nat.le_trans h0 (by decide)) (fun d hd r hr => by
    have h1 := wf.1.2 d hd
    have h2 := h1.2.1.2 r hr
    exact ⟨lit_i64 h2.1, lit_i64 h2.2.1⟩) (lit_i64 wf.2.1)

end Go.Proofs.Try
