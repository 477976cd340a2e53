/- The product: its text lies ahead. No condition. -/
import Derived.Test.YtaahnicjjpddjaaKMatrixFormsGMul1

