/- The program's Copy: every element's copy. No condition. -/
import Derived.Test.YtffkmlkdlhkkmaaQx
set_option linter.unusedSimpArgs false
set_option linter.unusedVariables false
namespace Go.Proofs.Ytffkmlkdlhkkmaa
open Go.RowKit Go.Fw Go.Fu Go.Pl
theorem fcopy1_any (g rb ra : Nat) (ad : List Dig) (ns : List Nn) (gf gt gc g2 rb2 gr ra2 n2 : Nat) (wB : World) (hT : FtAt wB g rb ra ad ns) (hG : Fu.Good (Fw.els ns)) (hn : ns.length ≤ 400001) : ∀ i, i < ns.length → CpOk wB ns g gf gt gc g2 rb2 gr ra2 n2 i := by
  have hel : (Fw.els ns).length = ns.length := List.length_map _
  intro i hi
  refine down_ind hG.down (P := CpOk wB ns g gf gt gc g2 rb2 gr ra2 n2) (fun i x hx IH => ?_) i (by omega)
  have hil := (List.getElem?_eq_some_iff.1 hx).1
  obtain ⟨z, hz⟩ : ∃ z, ns[i]? = some z := ⟨_, List.getElem?_eq_getElem (by omega)⟩
  have hze : (Fw.els ns)[i]? = some z.el := by rw [List.getElem?_map, hz]; rfl
  rw [hze] at hx
  obtain rfl := Option.some.inj hx
  intro w D hD hno
  exact fcopy1_step g rb ra ad ns gf gt gc g2 rb2 gr ra2 n2 i z wB w D hT hG hn hz (fun c hc => IH c hc (hG.down i z.el hze c hc).2) hD hno
end Go.Proofs.Ytffkmlkdlhkkmaa
