/- Hg: plain: every curve modulo a prime up to 199 has a certificate; what follows for the shape of its points. No conditions. -/
import Derived.Test.YtpjcfnjagknocaaHg1
namespace Go.Proofs.Ytpjcfnjagknocaa.Hs
open Go.Proofs.Ytpjcfnjagknocaa
theorem pr_small {p : Nat} (h : p5B p = true) (h2 : p ≤ 199) : p ∈ [5, 7, 11, 13, 17, 19, 23, 29, 31, 37, 41, 43, 47, 53, 59, 61, 67, 71, 73, 79, 83, 89, 97, 101, 103, 107, 109, 113, 127, 131, 137, 139, 149, 151, 157, 163, 167, 173, 179, 181, 191, 193, 197, 199] := by
  have hb := p5_bd h
  have hpr := p5_pr h
  have key : ((List.range 200).all fun p => !(isP p) || (Nat.ble p 4 || [5, 7, 11, 13, 17, 19, 23, 29, 31, 37, 41, 43, 47, 53, 59, 61, 67, 71, 73, 79, 83, 89, 97, 101, 103, 107, 109, 113, 127, 131, 137, 139, 149, 151, 157, 163, 167, 173, 179, 181, 191, 193, 197, 199].contains p)) = true := by decide +kernel
  have h1 := List.all_eq_true.1 key p (by rw [List.mem_range]; omega)
  rw [isP_of hpr, show Nat.ble p 4 = false by rw [← Bool.not_eq_true]; intro k; have := Nat.le_of_ble_eq_true k; omega] at h1
  simp only [Bool.not_true, Bool.false_or] at h1
  exact List.contains_iff_mem.1 h1
theorem cert_all {a b p : Int} (h : smallB a b p = true) : Cert a b p := by
  obtain ⟨_, hg, p1, p2⟩ := small_bd h
  have hd := small_disc h
  have hp : p5B p = true := by unfold goodB at hg; rw [Bool.and_eq_true] at hg; exact hg.1
  obtain ⟨q, rfl⟩ : ∃ q : Nat, p = q := ⟨p.toNat, by omega⟩
  have hm := pr_small hp (by omega)
  clear hg p1 p2 h
  simp only [List.mem_cons, List.not_mem_nil, or_false] at hm
  rcases hm with rfl | rfl | rfl | rfl | rfl | rfl | rfl | rfl | rfl | rfl | rfl | rfl | rfl | rfl | rfl | rfl | rfl | rfl | rfl | rfl | rfl | rfl | rfl | rfl | rfl | rfl | rfl | rfl | rfl | rfl | rfl | rfl | rfl | rfl | rfl | rfl | rfl | rfl | rfl | rfl | rfl | rfl | rfl | rfl
  · exact allC_cert (g := 2) hp (by decide) ce5_ok hd
  · exact allC_cert (g := 3) hp (by decide) ce7_ok hd
  · exact allC_cert (g := 2) hp (by decide) ce11_ok hd
  · exact allC_cert (g := 2) hp (by decide) ce13_ok hd
  · exact allC_cert (g := 3) hp (by decide) ce17_ok hd
  · exact allC_cert (g := 2) hp (by decide) ce19_ok hd
  · exact allC_cert (g := 5) hp (by decide) ce23_ok hd
  · exact allC_cert (g := 2) hp (by decide) ce29_ok hd
  · exact allC_cert (g := 3) hp (by decide) ce31_ok hd
  · exact allC_cert (g := 2) hp (by decide) ce37_ok hd
  · exact allC_cert (g := 6) hp (by decide) ce41_ok hd
  · exact allC_cert (g := 3) hp (by decide) ce43_ok hd
  · exact allC_cert (g := 5) hp (by decide) ce47_ok hd
  · exact allC_cert (g := 2) hp (by decide) ce53_ok hd
  · exact allC_cert (g := 2) hp (by decide) ce59_ok hd
  · exact allC_cert (g := 2) hp (by decide) ce61_ok hd
  · exact allC_cert (g := 2) hp (by decide) ce67_ok hd
  · exact allC_cert (g := 7) hp (by decide) ce71_ok hd
  · exact allC_cert (g := 5) hp (by decide) ce73_ok hd
  · exact allC_cert (g := 3) hp (by decide) ce79_ok hd
  · exact allC_cert (g := 2) hp (by decide) ce83_ok hd
  · exact allC_cert (g := 3) hp (by decide) ce89_ok hd
  · exact allC_cert (g := 5) hp (by decide) ce97_ok hd
  · exact allC_cert (g := 2) hp (by decide) ce101_ok hd
  · exact allC_cert (g := 5) hp (by decide) ce103_ok hd
  · exact allC_cert (g := 2) hp (by decide) ce107_ok hd
  · exact allC_cert (g := 6) hp (by decide) ce109_ok hd
  · exact allC_cert (g := 3) hp (by decide) ce113_ok hd
  · exact allC_cert (g := 3) hp (by decide) ce127_ok hd
  · exact allC_cert (g := 2) hp (by decide) ce131_ok hd
  · exact allC_cert (g := 3) hp (by decide) ce137_ok hd
  · exact allC_cert (g := 2) hp (by decide) ce139_ok hd
  · exact allC_cert (g := 2) hp (by decide) ce149_ok hd
  · exact allC_cert (g := 6) hp (by decide) ce151_ok hd
  · exact allC_cert (g := 5) hp (by decide) ce157_ok hd
  · exact allC_cert (g := 2) hp (by decide) ce163_ok hd
  · exact allC_cert (g := 5) hp (by decide) ce167_ok hd
  · exact allC_cert (g := 2) hp (by decide) ce173_ok hd
  · exact allC_cert (g := 2) hp (by decide) ce179_ok hd
  · exact allC_cert (g := 2) hp (by decide) ce181_ok hd
  · exact allC_cert (g := 19) hp (by decide) ce191_ok hd
  · exact allC_cert (g := 5) hp (by decide) ce193_ok hd
  · exact allC_cert (g := 2) hp (by decide) ce197_ok hd
  · exact allC_cert (g := 3) hp (by decide) ce199_ok hd
end Go.Proofs.Ytpjcfnjagknocaa.Hs
