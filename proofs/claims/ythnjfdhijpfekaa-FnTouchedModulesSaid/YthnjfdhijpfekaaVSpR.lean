import Derived.Test.YthnjfdhijpfekaaM0
import Derived.Test.YthnjfdhijpfekaaVApG
namespace Go.Proofs.Ythnjfdhijpfekaa
open Go.RowKit

/-- rasters of a region's own -/
def RasV2 (B : Nat) (x1 x2 : Int) (xs : List Int) (v : Value) (w : World) : Prop :=
  ∃ a c, v = .agg #[.int .i64 x1, .int .i64 x2, .slice a xs.length c] ∧ OwnI w B (.slice a xs.length c) xs
def RasT (B : Nat) (x1 x2 : Int) (xs : List Int) (cd : Int) (v : Value) (w : World) : Prop :=
  ∃ a c, v = .tuple #[.agg #[.int .i64 x1, .int .i64 x2, .slice a xs.length c], .int .i64 cd] ∧ OwnI w B (.slice a xs.length c) xs
def xRas (B : Nat) (x1 x2 : Int) (xs : List Int) : Sp KeepX := ⟨RasV2 B x1 x2 xs, fun _ _ _ hk ⟨a, c, hv, ho⟩ => ⟨a, c, hv, ho.grown hk⟩⟩
def xRasT (B : Nat) (x1 x2 : Int) (xs : List Int) (cd : Int) : Sp KeepX := ⟨RasT B x1 x2 xs cd, fun _ _ _ hk ⟨a, c, hv, ho⟩ => ⟨a, c, hv, ho.grown hk⟩⟩

/-- what damages make of a raster -/
structure ApIs (n m : Int) (xs : List Int) (ds : List Dm) (y1 y2 : Int) (zs : List Int) (cd : Int) : Prop where
  eq : ∀ W, RetAp W n m xs ds = RetRC W y1 y2 zs cd
  len : zs.length ≤ 40000
theorem apIs (n m : Int) (xs : List Int) (ds : List Dm) : ∃ y1 y2 zs cd, ApIs n m xs ds y1 y2 zs cd := by
  obtain ⟨n', m', zs, cd, h, hl⟩ := retAp_is n m xs ds
  exact ⟨n', m', zs, cd, h, hl⟩

end Go.Proofs.Ythnjfdhijpfekaa
